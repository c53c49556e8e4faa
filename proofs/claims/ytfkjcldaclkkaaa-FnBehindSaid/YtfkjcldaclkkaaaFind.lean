/- Contracts of FlowFind: program and reference. Condition: at most 2000000 steps, each of them after at most 2000000. -/
import Derived.Test.YtfkjcldaclkkaaaFindPlain
import Derived.Test.YtfkjcldaclkkaaaRunFns
namespace Go.Proofs.Ytfkjcldaclkkaaa
set_option linter.unusedVariables false
set_option maxRecDepth 100000
open Go.RowKit

abbrev stepV (nm : ByteArray) (A : Option Addr) (n c : Nat) (u : Bool) : Value := .agg #[.string nm, .slice A n c, .bool u]
/-- A step is handed back; what it comes after lies in memory of the call's own. -/
def RetClone (nm : ByteArray) (xs : List ByteArray) (u : Bool) (w : World) (e : Ending) (w' : World) : Prop :=
  ∃ A c, e = .returned (stepV nm A xs.length c u) ∧ OwnStrs w' w.heap.size A c xs ∧ Below w.heap.size w w'
def RetFind (s : St) (ok : Bool) (w : World) (e : Ending) (w' : World) : Prop :=
  ∃ A c, e = .returned (.tuple #[stepV s.name A s.after.length c s.undo, .bool ok]) ∧ OwnStrs w' w.heap.size A c s.after ∧ Below w.heap.size w w'
/-- Two boxes of three cells, one behind the other. -/
theorem two_boxes3 (w : World) (x y z p q r : Value) (t1 t2 : TypeId) :
    Cell3 ((w.alloc (.cells #[x, y, z] t1)).alloc (.cells #[p, q, r] t2)) w.heap.size x y z ∧
    Cell3 ((w.alloc (.cells #[x, y, z] t1)).alloc (.cells #[p, q, r] t2)) (w.heap.size + 1) p q r ∧
    (∀ i, ((w.alloc (.cells #[x, y, z] t1)).alloc (.cells #[p, q, r] t2)).frozen? ⟨w.heap.size, i, none⟩ = false) ∧
    ∀ i, ((w.alloc (.cells #[x, y, z] t1)).alloc (.cells #[p, q, r] t2)).frozen? ⟨w.heap.size + 1, i, none⟩ = false := by
  have e2 : (w.alloc (.cells #[x, y, z] t1)).heap.size = w.heap.size + 1 := by simp
  have c2 := Cell3.new (w.alloc (.cells #[x, y, z] t1)) p q r t2
  have c4 := heap_alloc_new (w.alloc (.cells #[x, y, z] t1)) (.cells #[p, q, r] t2)
  have c5 := Below.heap_alloc (w.alloc (.cells #[x, y, z] t1)) (.cells #[p, q, r] t2) w.heap.size (by simp)
  rw [heap_alloc_new w (.cells #[x, y, z] t1)] at c5
  rw [e2] at c2 c4
  refine ⟨(Cell3.new w x y z t1).alloc _, c2, fun i => ?_, fun i => ?_⟩
  · unfold World.frozen?
    simp only [c5]
    rfl
  · unfold World.frozen?
    simp only [c4]
    rfl

set_option maxHeartbeats 1000000 in
theorem stepClone_any (nm : ByteArray) (A : Option Addr) (c : Nat) (xs : List ByteArray) (u : Bool) (w : World) (B : Nat) (h : Strs w B A c xs) (hl : xs.length ≤ 2000000) :
    Calls Try.prog 55 #[stepV nm A xs.length c u] w (RetClone nm xs u w) := by
  have b0 : Below w.heap.size w ((w.alloc (.cells #[.string nm, .slice A xs.length c, .bool u] 30)).alloc (.cells #[.string ⟨#[]⟩, .slice none 0 0, .bool false] 30)) := ((Below.refl _ _).alloc (Nat.le_refl _) _).alloc (by simp) _
  obtain ⟨y1, y2, y3, y4⟩ := two_boxes3 w (.string nm) (.slice A xs.length c) (.bool u) (.string ⟨#[]⟩) (.slice none 0 0) (.bool false) 30 30
  go_enter Try.func55, Try.ntmps55
  go_wp2_with fail
  (with_reducible refine (clone_any A c xs _ _ (h.then_ b0) hl).mono ?_)
  rintro e w1 ⟨A1, c1, rfl, ho1, hb1⟩
  have b1 := bthen b0 hb1
  have hz0 : w.heap.size < w1.heap.size := by have := hb1.size; simp at this; omega
  have hz1 : w.heap.size + 1 < w1.heap.size := by have := hb1.size; simp at this; omega
  obtain ⟨f0, f1, f2⟩ := y1.then_ hb1
  obtain ⟨r0, r1, r2⟩ := y2.then_ hb1
  have rf0 := fun i => (hb1.frozen (p := ⟨w.heap.size, i, none⟩) y1.lt).trans (y3 i)
  have rf1 := fun i => (hb1.frozen (p := ⟨w.heap.size + 1, i, none⟩) y2.lt).trans (y4 i)
  clear y1 y2 y3 y4 b0
  go_wp2_with fail
  refine bodyPost_ret (v := stepV nm A1 xs.length c1 u) (by simp [results, Try.results55, go_sem, r0, r1, r2]) rfl ?_
  refine ⟨A1, c1, rfl, ?_, (((b1.setCell (by show w.heap.size ≤ w.heap.size; omega) _).setCell (by show w.heap.size ≤ w.heap.size + 1; omega) _).setCell (by show w.heap.size ≤ w.heap.size + 1; omega) _).setCell (by show w.heap.size ≤ w.heap.size + 1; omega) _⟩
  have hs : ((w.alloc (.cells #[.string nm, .slice A xs.length c, .bool u] 30)).alloc (.cells #[.string ⟨#[]⟩, .slice none 0 0, .bool false] 30)).heap.size = w.heap.size + 2 := by simp
  rw [hs] at ho1
  exact ((((ho1.setLow (a := ⟨w.heap.size, 1, none⟩) (by show w.heap.size < w.heap.size + 2; omega) _).setLow (a := ⟨w.heap.size + 1, 0, none⟩) (by show w.heap.size + 1 < w.heap.size + 2; omega) _).setLow (a := ⟨w.heap.size + 1, 1, none⟩) (by show w.heap.size + 1 < w.heap.size + 2; omega) _).setLow (a := ⟨w.heap.size + 1, 2, none⟩) (by show w.heap.size + 1 < w.heap.size + 2; omega) _).base_ (by omega)

set_option maxHeartbeats 1000000 in
theorem l2Step_any (nm : ByteArray) (A : Option Addr) (c : Nat) (xs : List ByteArray) (u : Bool) (w : World) (B : Nat) (h : Strs w B A c xs) (hl : xs.length ≤ 2000000) :
    Calls Try.prog 58 #[stepV nm A xs.length c u] w (RetClone nm xs u w) := by
  have b0 : Below w.heap.size w ((w.alloc (.cells #[.string nm, .slice A xs.length c, .bool u] 30)).alloc (.cells #[.string ⟨#[]⟩, .slice none 0 0, .bool false] 30)) := ((Below.refl _ _).alloc (Nat.le_refl _) _).alloc (by simp) _
  obtain ⟨y1, y2, y3, y4⟩ := two_boxes3 w (.string nm) (.slice A xs.length c) (.bool u) (.string ⟨#[]⟩) (.slice none 0 0) (.bool false) 30 30
  have hO : OwnStrs (((w.alloc (.cells #[.string nm, .slice A xs.length c, .bool u] 30)).alloc (.cells #[.string ⟨#[]⟩, .slice none 0 0, .bool false] 30)).alloc (.cells #[] 9)) (w.heap.size + 2) (some ⟨w.heap.size + 1 + 1, 0, none⟩) 0 [] := by
    have := own_lit0 ((w.alloc (.cells #[.string nm, .slice A xs.length c, .bool u] 30)).alloc (.cells #[.string ⟨#[]⟩, .slice none 0 0, .bool false] 30)) (w.heap.size + 2) (by simp)
    simpa using this
  have hd0 := (h.then_ b0).alloc b0.size (.cells #[] 9)
  have hB0 : Below (w.heap.size + 2) ((w.alloc (.cells #[.string nm, .slice A xs.length c, .bool u] 30)).alloc (.cells #[.string ⟨#[]⟩, .slice none 0 0, .bool false] 30)) (((w.alloc (.cells #[.string nm, .slice A xs.length c, .bool u] 30)).alloc (.cells #[.string ⟨#[]⟩, .slice none 0 0, .bool false] 30)).alloc (.cells #[] 9)) := (Below.refl _ _).alloc (by simp) _
  have HB : Hid (∀ w3, Below (w.heap.size + 2) (((w.alloc (.cells #[.string nm, .slice A xs.length c, .bool u] 30)).alloc (.cells #[.string ⟨#[]⟩, .slice none 0 0, .bool false] 30)).alloc (.cells #[] 9)) w3 →
      Cell3 w3 w.heap.size (.string nm) (.slice A xs.length c) (.bool u) ∧ Cell3 w3 (w.heap.size + 1) (.string ⟨#[]⟩) (.slice none 0 0) (.bool false) ∧ (∀ i, w3.frozen? ⟨w.heap.size, i, none⟩ = false) ∧ (∀ i, w3.frozen? ⟨w.heap.size + 1, i, none⟩ = false) ∧ Below w.heap.size w w3 ∧ w.heap.size < w3.heap.size ∧ w.heap.size + 1 < w3.heap.size) := fun w3 hb => by
    have hb' := hB0.trans hb
    have hz := hb.size
    simp at hz
    have l0 : w.heap.size < w.heap.size + 2 := by omega
    have l1 : w.heap.size + 1 < w.heap.size + 2 := by omega
    exact ⟨⟨(hb'.cell (p := ⟨w.heap.size, 0, none⟩) l0).trans y1.c0, (hb'.cell (p := ⟨w.heap.size, 1, none⟩) l0).trans y1.c1, (hb'.cell (p := ⟨w.heap.size, 2, none⟩) l0).trans y1.c2⟩,
      ⟨(hb'.cell (p := ⟨w.heap.size + 1, 0, none⟩) l1).trans y2.c0, (hb'.cell (p := ⟨w.heap.size + 1, 1, none⟩) l1).trans y2.c1, (hb'.cell (p := ⟨w.heap.size + 1, 2, none⟩) l1).trans y2.c2⟩,
      fun i => (hb'.frozen (p := ⟨w.heap.size, i, none⟩) l0).trans (y3 i), fun i => (hb'.frozen (p := ⟨w.heap.size + 1, i, none⟩) l1).trans (y4 i), b0.trans (hb'.mono (by omega)), by omega, by omega⟩
  clear hB0 b0 y1 y2 y3 y4
  go_enter Try.func58, Try.ntmps58
  go_wp2_with (at_builtin; (refine wpList_append_strs _ rfl (.tmp 3) (.tmp 5) rfl (w.heap.size + 2) (some ⟨w.heap.size + 1 + 1, 0, none⟩) 0 [] rfl hO A c _ xs rfl hd0 xs rfl hl (by simp) ?_); intro A1 c1 w1 ho1 hb1 hg1; obtain ⟨⟨f0, f1, f2⟩, ⟨r0, r1, r2⟩, rf0, rf1, b1, hz0, hz1⟩ := HB.out _ hb1)
  refine bodyPost_ret (v := stepV nm A1 xs.length c1 u) (by simp [results, Try.results58, go_sem, r0, r1, r2]) rfl ?_
  refine ⟨A1, c1, rfl, ?_, (((b1.setCell (by show w.heap.size ≤ w.heap.size; omega) _).setCell (by show w.heap.size ≤ w.heap.size + 1; omega) _).setCell (by show w.heap.size ≤ w.heap.size + 1; omega) _).setCell (by show w.heap.size ≤ w.heap.size + 1; omega) _⟩
  exact ((((ho1.setLow (a := ⟨w.heap.size, 1, none⟩) (by show w.heap.size < w.heap.size + 2; omega) _).setLow (a := ⟨w.heap.size + 1, 0, none⟩) (by show w.heap.size + 1 < w.heap.size + 2; omega) _).setLow (a := ⟨w.heap.size + 1, 1, none⟩) (by show w.heap.size + 1 < w.heap.size + 2; omega) _).setLow (a := ⟨w.heap.size + 1, 2, none⟩) (by show w.heap.size + 1 < w.heap.size + 2; omega) _).base_ (by omega)

/-- A box of two cells, and one of three behind it. -/
theorem boxes23 (w : World) (x y p q r : Value) (t1 t2 : TypeId) :
    Cell2 ((w.alloc (.cells #[x, y] t1)).alloc (.cells #[p, q, r] t2)) w.heap.size x y ∧
    Cell3 ((w.alloc (.cells #[x, y] t1)).alloc (.cells #[p, q, r] t2)) (w.heap.size + 1) p q r ∧
    ∀ i, ((w.alloc (.cells #[x, y] t1)).alloc (.cells #[p, q, r] t2)).frozen? ⟨w.heap.size + 1, i, none⟩ = false := by
  have e2 : (w.alloc (.cells #[x, y] t1)).heap.size = w.heap.size + 1 := by simp
  have c2 := Cell3.new (w.alloc (.cells #[x, y] t1)) p q r t2
  have c4 := heap_alloc_new (w.alloc (.cells #[x, y] t1)) (.cells #[p, q, r] t2)
  rw [e2] at c2 c4
  refine ⟨(Cell2.new w x y t1).alloc _, c2, fun i => ?_⟩
  unfold World.frozen?
  simp only [c4]
  rfl

set_option maxHeartbeats 2000000 in
theorem iFlowFind_any (ver : Int) (A : Option Addr) (c : Nat) (ss : List St) (nm : ByteArray) (w : World) (B : Nat) (h : Sts w B A c ss) (hl : ss.length ≤ 2000000) :
    Calls Try.prog 16 #[flowV ver A ss.length c, .string nm] w (RetFind (findSt ver ss nm) (findB ver ss nm) w) := by
  have h1 := h.len
  have h2 := h.cap
  have b0 : Below w.heap.size w ((w.alloc (.cells #[.int .i64 ver, .slice A ss.length c] 25)).alloc (.cells #[.string ⟨#[]⟩, .slice none 0 0, .bool false] 30)) := ((Below.refl _ _).alloc (Nat.le_refl _) _).alloc (by simp) _
  obtain ⟨y1, y2, y3⟩ := boxes23 w (.int .i64 ver) (.slice A ss.length c) (.string ⟨#[]⟩) (.slice none 0 0) (.bool false) 25 30
  go_enter Try.func16, Try.ntmps16
  go_wp2_with fail
  (with_reducible refine (iFlowValid_any ver A c ss _ _ (h.then_ b0)).mono ?_)
  rintro e w1 ⟨rfl, hb1⟩
  have b1 := bthen b0 hb1
  have z1 := y1.then_ hb1
  have z2 := y2.then_ hb1
  have z3 := fun i => (hb1.frozen (p := ⟨w.heap.size + 1, i, none⟩) y2.lt).trans (y3 i)
  clear y1 y2 y3 b0
  obtain ⟨f0, f1⟩ := id z1
  obtain ⟨r0, r1, r2⟩ := id z2
  cases hok : flowOk ver ss
  · have hB := findB_noFlow (n := nm) hok
    have e0 := Lib.hid hB
    have e1 := Lib.hid (findSt_no hB)
    clear hok hB
    go_wp2_with fail
    refine bodyPost_ret (v := .tuple #[stepV ⟨#[]⟩ none 0 0 false, .bool false]) (by simp [results, Try.results16, go_sem, r0, r1, r2]) rfl ?_
    rw [e0.out, e1.out]
    exact ⟨none, 0, rfl, OwnStrs.nil_ _ _, ((b1.setCell (by show w.heap.size ≤ w.heap.size + 1; omega) _).setCell (by show w.heap.size ≤ w.heap.size + 1; omega) _).setCell (by show w.heap.size ≤ w.heap.size + 1; omega) _⟩
  · by_cases hm : nm ∈ names ss
    · have hB := findB_iff.2 ⟨hok, hm⟩
      have e0 := Lib.hid hB
      obtain ⟨s, hs, hname, hmem⟩ := place_get hm
      obtain ⟨k, hk⟩ : ∃ k, k = (place (names ss) nm).toNat := ⟨_, rfl⟩
      have hp := place_mem hm
      have hpk : place (names ss) nm = (k : Int) := by omega
      rw [← hk] at hs
      obtain ⟨hks, hsk⟩ := List.getElem?_eq_some_iff.1 hs
      have e1 := Lib.hid ((findSt_yes hB).trans (stepAt_get hs hpk))
      have hd0 : decide ((k : Int) < 0) = false := by simp
      have hi0 : (0 : Int) ≤ k := by omega
      have hi1 : (k : Int) < ss.length := by omega
      have KA := fun (wx : World) (hx : Below w1.heap.size w1 wx) => (at_any ver A c ss nm wx _ (h.then_ (bthen b1 hx))).mono fun e w' ⟨h1, h2⟩ => (⟨h1.trans (ret_int hpk), h2⟩ : e = Ending.returned (.int .i64 (k : Int)) ∧ Below wx.heap.size wx w')
      have HKA := Lib.hid KA
      have hal : s.after.length ≤ 2000000 := by
        have := (flowOk_iff.1 hok).2.2.2.2.2.1 s hmem
        unfold stepOk2 stepOk at this
        simp only [Bool.and_eq_true, decide_eq_true_eq] at this
        omega
      clear hok hm hB hname hmem hk hp hpk KA hs
      go_wp2_with fail
      (with_reducible refine (HKA.out w1 (Below.refl _ _)).mono ?_)
      rintro e w2 ⟨rfl, hb2⟩
      have b2 := bthen b1 hb2
      obtain ⟨ad, A1, c1, rfl, hadB, hc0, hc1, hc2, hss⟩ := (h.then_ b2).at_ hks
      rw [hsk] at hc0 hc1 hc2 hss
      have hS : ∀ wx, Below w2.drew.heap.size w2.drew wx → (∀ i, wx.frozen? ⟨w.heap.size + 1, i, none⟩ = false) ∧ Cell3 wx (w.heap.size + 1) (.string ⟨#[]⟩) (.slice none 0 0) (.bool false) ∧ Strs wx w2.heap.size A1 c1 s.after ∧ w.heap.size + 1 < wx.heap.size ∧
          (wx.cell? ⟨w.heap.size, 0, none⟩ = some (.int .i64 ver) ∧ wx.cell? ⟨w.heap.size, 1, none⟩ = some (.slice (some ad) ss.length c)) ∧ wx.cell? (ad.add (k * 3)) = some (.string s.name) ∧ wx.cell? ⟨(ad.add (k * 3)).block, (ad.add (k * 3)).off + 1, none⟩ = some (.slice A1 s.after.length c1) ∧ wx.cell? ⟨(ad.add (k * 3)).block, (ad.add (k * 3)).off + 2, none⟩ = some (.bool s.undo) := by
        intro wx hb
        have hb' := Below.undrew hb
        have hb'' := bthen hb2 hb'
        have q3 := z2.then_ hb''
        exact ⟨fun i => (hb''.frozen (p := ⟨w.heap.size + 1, i, none⟩) z2.lt).trans (z3 i), q3, hss.then_ hb', q3.lt, ⟨(z1.then_ hb'').c0, (z1.then_ hb'').c1⟩, (hb'.cell (World.block_lt_of_cell? _ _ hc0)).trans hc0, (hb'.cell (World.block_lt_of_cell? _ _ hc1)).trans hc1, (hb'.cell (World.block_lt_of_cell? _ _ hc2)).trans hc2⟩
      have HS := Lib.hid hS
      have hS0 := HS.out _ (Below.refl _ _)
      have hne : ∀ i j, (⟨w.heap.size + 1, i, none⟩ : Addr) ≠ ⟨w.heap.size, j, none⟩ := fun i j e => by injection e with e; omega
      have hne2 : ∀ i (p : Addr), p.block = ad.block → (⟨w.heap.size + 1, i, none⟩ : Addr) ≠ p := fun i p hp e => by
        have h2 : w.heap.size + 1 = p.block := congrArg Addr.block e
        omega
      have hadb : (ad.add (k * 3)).block = ad.block := block_of_add _ _
      have Hne := Lib.hid hne
      have Hne2 := Lib.hid hne2
      have Hadb := Lib.hid hadb
      have Hz1 := Lib.hid z1
      clear hS hne hne2 hadb hc0 hc1 hc2 z1 z2 z3 f0 f1 r0 r1 r2 hsk
      obtain ⟨x0, x1, x2, x3, x4⟩ := hS0
      obtain ⟨⟨f0, f1⟩, _⟩ := id x4
      go_upto_region 3 with fail
      go_region_held3 (fun wx => (wx.cell? ⟨w.heap.size, 0, none⟩ = some (.int .i64 ver) ∧ wx.cell? ⟨w.heap.size, 1, none⟩ = some (.slice (some ad) ss.length c)) ∧ wx.cell? (ad.add (k * 3)) = some (.string s.name) ∧ wx.cell? ⟨(ad.add (k * 3)).block, (ad.add (k * 3)).off + 1, none⟩ = some (.slice A1 s.after.length c1) ∧ wx.cell? ⟨(ad.add (k * 3)).block, (ad.add (k * 3)).off + 2, none⟩ = some (.bool s.undo))
        (first
          | exact x4 | exact k4 | exact j4
          | exact And.intro (And.intro (cell_stR (Hne.out _ _) (cell_stR (Hne.out _ _) (cell_stR (Hne.out _ _) j4.1.1))) (cell_stR (Hne.out _ _) (cell_stR (Hne.out _ _) (cell_stR (Hne.out _ _) j4.1.2)))) (And.intro (cell_stR (Hne2.out _ _ Hadb.out) (cell_stR (Hne2.out _ _ Hadb.out) (cell_stR (Hne2.out _ _ Hadb.out) j4.2.1))) (And.intro (cell_stR (Hne2.out _ _ Hadb.out) (cell_stR (Hne2.out _ _ Hadb.out) (cell_stR (Hne2.out _ _ Hadb.out) j4.2.2.1))) (cell_stR (Hne2.out _ _ Hadb.out) (cell_stR (Hne2.out _ _ Hadb.out) (cell_stR (Hne2.out _ _ Hadb.out) j4.2.2.2))))))
        (first
          | (go_at_call 54; (with_reducible refine (HKA.out _ hb2.drew).mono ?_); rintro e wa ⟨rfl, hba⟩; obtain ⟨k0, k1, k2, k3, k4⟩ := HS.out _ hba)
          | (go_at_call 55; (with_reducible refine (stepClone_any s.name A1 c1 s.after s.undo wa _ k2 hal).mono ?_); rintro e wb ⟨A2, c2, rfl, ho2, hbb⟩; have hbc := bthen hba hbb; obtain ⟨j0, ⟨g0, g1, g2⟩, j2, j3, j4⟩ := HS.out _ hbc))
      go_wp2_with fail
      refine bodyPost_ret (v := .tuple #[stepV s.name A2 s.after.length c2 s.undo, .bool true]) (by simp [results, Try.results16, go_sem, g0, g1, g2]) rfl ?_
      rw [e0.out, e1.out]
      refine ⟨A2, c2, rfl, ?_, (((bthen b2 (Below.undrew hbc)).setCell (by show w.heap.size ≤ w.heap.size + 1; omega) _).setCell (by show w.heap.size ≤ w.heap.size + 1; omega) _).setCell (by show w.heap.size ≤ w.heap.size + 1; omega) _⟩
      have hwa : w.heap.size + 1 < wa.heap.size := k3
      exact (((ho2.setLow (a := ⟨w.heap.size + 1, 0, none⟩) hwa _).setLow (a := ⟨w.heap.size + 1, 1, none⟩) hwa _).setLow (a := ⟨w.heap.size + 1, 2, none⟩) hwa _).base_ (by omega)
    · have hB := findB_noName (ver := ver) hm
      have e0 := Lib.hid hB
      have e1 := Lib.hid (findSt_no hB)
      have hpl := place_notMem hm
      have hdn : decide ((-1 : Int) < 0) = true := by decide
      have K := Lib.hid ((at_any ver A c ss nm w1 _ (h.then_ b1)).mono fun e w' ⟨h1, h2⟩ => (⟨h1.trans (ret_int hpl), h2⟩ : e = Ending.returned (.int .i64 (-1)) ∧ Below w1.heap.size w1 w'))
      clear hok hB hm hpl
      go_wp2_with fail
      (with_reducible refine K.out.mono ?_)
      rintro e w2 ⟨rfl, hb2⟩
      obtain ⟨g0, g1, g2⟩ := z2.then_ hb2
      have gf := fun i => (hb2.frozen (p := ⟨w.heap.size + 1, i, none⟩) z2.lt).trans (z3 i)
      have b2 := bthen b1 hb2
      go_wp2_with fail
      refine bodyPost_ret (v := .tuple #[stepV ⟨#[]⟩ none 0 0 false, .bool false]) (by simp [results, Try.results16, go_sem, g0, g1, g2]) rfl ?_
      rw [e0.out, e1.out]
      exact ⟨none, 0, rfl, OwnStrs.nil_ _ _, ((b2.setCell (by show w.heap.size ≤ w.heap.size + 1; omega) _).setCell (by show w.heap.size ≤ w.heap.size + 1; omega) _).setCell (by show w.heap.size ≤ w.heap.size + 1; omega) _⟩

set_option maxHeartbeats 2000000 in
theorem sFlowFind_any (ver : Int) (A : Option Addr) (c : Nat) (ss : List St) (nm : ByteArray) (w : World) (B : Nat) (h : Sts w B A c ss) (hl : ss.length ≤ 2000000) :
    Calls Try.prog 17 #[flowV ver A ss.length c, .string nm] w (RetFind (findSt ver ss nm) (findB ver ss nm) w) := by
  have h1 := h.len
  have h2 := h.cap
  have b0 : Below w.heap.size w ((w.alloc (.cells #[.int .i64 ver, .slice A ss.length c] 25)).alloc (.cells #[.string ⟨#[]⟩, .slice none 0 0, .bool false] 30)) := ((Below.refl _ _).alloc (Nat.le_refl _) _).alloc (by simp) _
  obtain ⟨y1, y2, y3⟩ := boxes23 w (.int .i64 ver) (.slice A ss.length c) (.string ⟨#[]⟩) (.slice none 0 0) (.bool false) 25 30
  obtain ⟨P, hP⟩ : ∃ P, P = place (names ss) nm := ⟨_, rfl⟩
  have KA := Lib.hid ((l2At_any A c ss nm _ _ (h.then_ b0)).mono fun e w' ⟨h1, h2⟩ => (⟨h1.trans (ret_int hP.symm), h2⟩ : e = Ending.returned (.int .i64 P) ∧ _ = w'))
  have HP := Lib.hid hP
  clear hP
  go_enter Try.func17, Try.ntmps17
  go_wp2_with (go_at_call 56; (with_reducible refine KA.out.mono ?_); rintro e w' ⟨rfl, rfl⟩)
  (with_reducible refine (sFlowValid_any ver A c ss _ _ (h.then_ b0) hl).mono ?_)
  rintro e w1 ⟨rfl, hb1⟩
  have b1 := bthen b0 hb1
  have z1 := y1.then_ hb1
  have z2 := y2.then_ hb1
  have z3 := fun i => (hb1.frozen (p := ⟨w.heap.size + 1, i, none⟩) y2.lt).trans (y3 i)
  clear y1 y2 y3 b0 KA
  obtain ⟨f0, f1⟩ := id z1
  obtain ⟨r0, r1, r2⟩ := id z2
  cases hok : flowOk ver ss
  · have hB := findB_noFlow (n := nm) hok
    have e0 := Lib.hid hB
    have e1 := Lib.hid (findSt_no hB)
    clear hok hB
    go_wp2_with fail
    refine bodyPost_ret (v := .tuple #[stepV ⟨#[]⟩ none 0 0 false, .bool false]) (by simp [results, Try.results17, go_sem, r0, r1, r2]) rfl ?_
    rw [e0.out, e1.out]
    exact ⟨none, 0, rfl, OwnStrs.nil_ _ _, ((b1.setCell (by show w.heap.size ≤ w.heap.size + 1; omega) _).setCell (by show w.heap.size ≤ w.heap.size + 1; omega) _).setCell (by show w.heap.size ≤ w.heap.size + 1; omega) _⟩
  · by_cases hm : nm ∈ names ss
    · have hB := findB_iff.2 ⟨hok, hm⟩
      have e0 := Lib.hid hB
      obtain ⟨s, hs, hname, hmem⟩ := place_get hm
      have hp0 : 0 ≤ P := by rw [HP.out]; exact place_mem hm
      rw [← HP.out] at hs
      obtain ⟨k, rfl⟩ := Int.eq_ofNat_of_zero_le hp0
      have hs2 : ss[k]? = some s := hs
      obtain ⟨hks, hsk⟩ := List.getElem?_eq_some_iff.1 hs2
      have e1 := Lib.hid ((findSt_yes hB).trans (stepAt_get hs2 HP.out.symm))
      have hd0 : decide ((k : Int) < 0) = false := by simp
      have hi1 : (k : Int) < ss.length := by omega
      have hal : s.after.length ≤ 2000000 := by
        have := (flowOk_iff.1 hok).2.2.2.2.2.1 s hmem
        unfold stepOk2 stepOk at this
        simp only [Bool.and_eq_true, decide_eq_true_eq] at this
        omega
      obtain ⟨ad, A1, c1, rfl, hadB, hc0, hc1, hc2, hss⟩ := (h.then_ b1).at_ hks
      rw [hsk] at hc0 hc1 hc2 hss
      clear hok hm hB hname hmem hs hs2 hsk
      go_wp2_with fail
      (with_reducible refine (l2Step_any s.name A1 c1 s.after s.undo w1 _ hss hal).mono ?_)
      rintro e w2 ⟨A2, c2, rfl, ho2, hb2⟩
      obtain ⟨g0, g1, g2⟩ := z2.then_ hb2
      have gf := fun i => (hb2.frozen (p := ⟨w.heap.size + 1, i, none⟩) z2.lt).trans (z3 i)
      have b2 := bthen b1 hb2
      have hwa : w.heap.size + 1 < w1.heap.size := z2.lt
      go_wp2_with fail
      refine bodyPost_ret (v := .tuple #[stepV s.name A2 s.after.length c2 s.undo, .bool true]) (by simp [results, Try.results17, go_sem, g0, g1, g2]) rfl ?_
      rw [e0.out, e1.out]
      refine ⟨A2, c2, rfl, ?_, ((b2.setCell (by show w.heap.size ≤ w.heap.size + 1; omega) _).setCell (by show w.heap.size ≤ w.heap.size + 1; omega) _).setCell (by show w.heap.size ≤ w.heap.size + 1; omega) _⟩
      exact (((ho2.setLow (a := ⟨w.heap.size + 1, 0, none⟩) hwa _).setLow (a := ⟨w.heap.size + 1, 1, none⟩) hwa _).setLow (a := ⟨w.heap.size + 1, 2, none⟩) hwa _).base_ (by omega)
    · have hB := findB_noName (ver := ver) hm
      have e0 := Lib.hid hB
      have e1 := Lib.hid (findSt_no hB)
      have hpn : P < 0 := by rw [HP.out, place_notMem hm]; omega
      have hdn : decide (P < 0) = true := decide_eq_true hpn
      clear hok hB hm
      go_wp2_with fail
      refine bodyPost_ret (v := .tuple #[stepV ⟨#[]⟩ none 0 0 false, .bool false]) (by simp [results, Try.results17, go_sem, r0, r1, r2]) rfl ?_
      rw [e0.out, e1.out]
      exact ⟨none, 0, rfl, OwnStrs.nil_ _ _, ((b1.setCell (by show w.heap.size ≤ w.heap.size + 1; omega) _).setCell (by show w.heap.size ≤ w.heap.size + 1; omega) _).setCell (by show w.heap.size ≤ w.heap.size + 1; omega) _⟩
end Go.Proofs.Ytfkjcldaclkkaaa
