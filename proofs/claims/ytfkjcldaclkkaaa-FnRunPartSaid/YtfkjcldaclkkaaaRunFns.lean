/- Contracts of the program's functions on runs: cloneNames, canDo, RunDo, RunFail, RunUndo, RunNext. Condition: at most 2000000 steps. -/
import Derived.Test.YtfkjcldaclkkaaaRunValid
import Derived.Test.YtfkjcldaclkkaaaFlowFns
import Derived.Test.YtfkjcldaclkkaaaAppend2
namespace Go.Proofs.Ytfkjcldaclkkaaa
set_option linter.unusedVariables false
set_option maxRecDepth 100000
open Go.RowKit

theorem forth_n (ver : Int) (A D : Option Addr) (c d n : Nat) (ss : List St) (done : List ByteArray) (w : World) (B B' : Nat) (hn : Hid (done.length = n)) (h : Sts w B A c ss) (hd : Strs w B' D d done) :
    Calls Try.prog 75 #[flowV ver A ss.length c, .slice D n d] w fun e w' => e = .returned (.int .i64 (forthSt ss done)) ∧ Below w.heap.size w w' := by
  obtain rfl := hn.out
  exact forth_any ver A D c d ss done w B B' h hd
theorem back_n (ver : Int) (A D : Option Addr) (c d n : Nat) (ss : List St) (done : List ByteArray) (w : World) (B B' : Nat) (hn : Hid (done.length = n)) (h : Sts w B A c ss) (hd : Strs w B' D d done) (hs : Hid (∀ n ∈ done, n ∈ names ss)) :
    Calls Try.prog 76 #[flowV ver A ss.length c, .slice D n d] w fun e w' => e = .returned (.int .i64 (backSt ss done)) ∧ Below w.heap.size w w' := by
  obtain rfl := hn.out
  exact back_any ver A D c d ss done w B B' h hd hs

set_option maxHeartbeats 400000 in
theorem clone_any (A : Option Addr) (c : Nat) (xs : List ByteArray) (w : World) (B : Nat) (h : Strs w B A c xs) (hl : xs.length ≤ 2000000) :
    Calls Try.prog 84 #[.slice A xs.length c] w (RetStrs xs w) := by
  go_enter Try.func84, Try.ntmps84
  go_wp2_with (at_builtin; (refine wpList_append_strs _ rfl (.const (.slice none 0 0)) (.tmp 3) rfl w.heap.size none 0 [] rfl (OwnStrs.nil_ _ _) A c B xs rfl h xs rfl hl (Nat.le_refl _) ?_); intro A3 c3 w3 ho3 hb3 hg3)
  go_ret
  exact ⟨A3, c3, rfl, ho3, hb3⟩
theorem clone_n (A : Option Addr) (c n : Nat) (xs : List ByteArray) (w : World) (B : Nat) (hn : Hid (xs.length = n)) (h : Strs w B A c xs) (hl : xs.length ≤ 2000000) :
    Calls Try.prog 84 #[.slice A n c] w fun e w' => ∃ A' c', e = .returned (.slice A' n c') ∧ OwnStrs w' w.heap.size A' c' xs ∧ Below w.heap.size w w' := by
  obtain rfl := hn.out
  exact clone_any A c xs w B h hl
/-- A run, a name and a word are handed back. -/
def RetUndo (st : Int) (done : List ByteArray) (nm : ByteArray) (ok : Bool) (w : World) (e : Ending) (w' : World) : Prop :=
  ∃ A c, e = .returned (.tuple #[.agg #[.int .i64 st, .slice A done.length c], .string nm, .bool ok]) ∧ OwnStrs w' w.heap.size A c done ∧ Below w.heap.size w w'

set_option maxHeartbeats 1000000 in
theorem canDo_any (ver st : Int) (A D : Option Addr) (c d : Nat) (ss : List St) (done : List ByteArray) (nm : ByteArray) (w : World) (B B' : Nat) (h : Sts w B A c ss) (hd : Strs w B' D d done) (hl : ss.length ≤ 2000000) :
    Calls Try.prog 83 #[flowV ver A ss.length c, runV st D done.length d, .string nm] w fun e w' => e = .returned (.bool (canB ver ss st done nm)) ∧ Below w.heap.size w w' := by
  have b0 : Below w.heap.size w ((w.alloc (.cells #[.int .i64 ver, .slice A ss.length c] 25)).alloc (.cells #[.int .i64 st, .slice D done.length d] 52)) := ((Below.refl _ _).alloc (Nat.le_refl _) _).alloc (by simp) _
  go_enter Try.func83, Try.ntmps83
  go_wp2_with fail
  (with_reducible refine (iRunValid_any ver st A D c d ss done _ _ _ (h.then_ b0) (hd.then_ b0) hl).mono ?_)
  rintro e w1 ⟨rfl, hb1⟩
  have b1 := bthen b0 hb1
  obtain ⟨hc, hf⟩ := bcell hb1
  have hz : w.heap.size + 1 < w1.heap.size := by have := hb1.size; simp at this; omega
  cases hok : runOk ver ss st done
  · have Hf := Lib.hid (canB_noRun hok nm)
    clear hok
    go_wp2_with fail
    go_ret
    exact ⟨ret_bool Hf.out.symm, b1⟩
  · by_cases s0 : st = 0
    · have Hf := Lib.hid (canB_has hok s0 nm)
      have e0 : (st == 0) = true := beq_iff_eq.2 s0
      clear hok s0
      go_wp2_with fail
      (with_reducible refine (ready_any ver A D c d ss done w1 _ _ (h.then_ b1) (hd.then_ b1) hl).mono ?_)
      rintro e w2 ⟨A2, c2, rfl, ho2, hb2⟩
      go_wp2_with fail
      (with_reducible refine (slContains_any _ _ _ _ _ _ ho2.strs).mono ?_)
      rintro e w' ⟨rfl, rfl⟩
      go_wp2_with fail
      go_ret
      exact ⟨ret_bool Hf.out.symm, bthen b1 hb2⟩
    · have Hf := Lib.hid (canB_noSt (ver := ver) (ss := ss) (done := done) s0 nm)
      have e0 : (st == 0) = false := beq_eq_false_iff_ne.2 s0
      clear hok s0
      go_wp2_with fail
      go_ret
      exact ⟨ret_bool Hf.out.symm, b1⟩


set_option maxHeartbeats 2000000 in
theorem iRunNext_any (ver st : Int) (A D : Option Addr) (c d : Nat) (ss : List St) (done : List ByteArray) (w : World) (B B' : Nat) (h : Sts w B A c ss) (hd : Strs w B' D d done) (hl : ss.length ≤ 2000000) :
    Calls Try.prog 44 #[flowV ver A ss.length c, runV st D done.length d] w (RetStrs (nextOut ver ss st done) w) := by
  have hd1 := hd.len
  have hd2 := hd.cap
  have b0 : Below w.heap.size w ((w.alloc (.cells #[.int .i64 ver, .slice A ss.length c] 25)).alloc (.cells #[.int .i64 st, .slice D done.length d] 52)) := ((Below.refl _ _).alloc (Nat.le_refl _) _).alloc (by simp) _
  go_enter Try.func44, Try.ntmps44
  go_wp2_with fail
  (with_reducible refine (iRunValid_any ver st A D c d ss done _ _ _ (h.then_ b0) (hd.then_ b0) hl).mono ?_)
  rintro e w1 ⟨rfl, hb1⟩
  have b1 := bthen b0 hb1
  obtain ⟨hc, hf⟩ := bcell hb1
  have hz : w.heap.size + 1 < w1.heap.size := by have := hb1.size; simp at this; omega
  have hz0 : w.heap.size < w1.heap.size := by omega
  cases hok : runOk ver ss st done
  · have e1 := Lib.hid (nextOut_no hok)
    clear hok
    go_wp2_with fail
    go_ret
    rw [e1.out]
    exact ⟨none, 0, rfl, OwnStrs.nil_ _ _, b1⟩
  · by_cases s0 : st = 0
    · subst s0
      have e1 := Lib.hid (nextOut_zero hok)
      clear hok
      go_wp2_with fail
      (with_reducible refine (ready_any ver A D c d ss done w1 _ _ (h.then_ b1) (hd.then_ b1) hl).mono ?_)
      rintro e w2 ⟨A2, c2, rfl, ho2, hb2⟩
      go_wp2_with fail
      go_ret
      rw [e1.out]
      exact ⟨A2, c2, rfl, ho2.base_ (by omega), bthen b1 hb2⟩
    · by_cases s1 : st = 1
      · subst s1
        have e1 := Lib.hid (nextOut_one hok)
        have hp := back_pos hok
        have hg := Lib.hid (getLastD_eq hp)
        clear hok
        obtain ⟨ad, rfl, _, hcell⟩ := (hd.then_ b1).at_ (k := done.length - 1) (by omega)
        have hj0 : (0 : Int) < done.length := by omega
        have hj1 : (0 : Int) ≤ (done.length : Int) - 1 := by omega
        have hj2 : (1 : Int) ≤ done.length := by omega
        have hj3 : (done.length : Int) - 1 < done.length := by omega
        have hj4 : IntKind.i64.wrap ((done.length : Int) - 1) = (done.length : Int) - 1 := IntWalk.i64_in _ (by omega)
        have hj5 : ((done.length : Int) - 1).toNat = done.length - 1 := by omega
        go_wp2_with fail
        go_ret
        rw [e1.out, hg.out]
        have hx : ∀ x ∈ [done[done.length - 1]'(by omega)], x.size ≤ 9223372036854775807 := by
          intro x hx
          simp at hx
          subst hx
          exact hd.lens _ _
        exact ⟨some ⟨w1.heap.size, 0, none⟩, 1, rfl, ⟨World.ownsRow_lit w1 #[.string (done[done.length - 1]'(by omega))] _ (by omega) (by show 1 ≤ maxLen; decide) rfl, hx⟩, b1.alloc b1.size _⟩
      · have e1 := Lib.hid (nextOut_end hok s0 s1)
        have n0 : (st == 0) = false := beq_eq_false_iff_ne.2 s0
        have n1 : (st == 1) = false := beq_eq_false_iff_ne.2 s1
        clear hok s0 s1
        go_wp2_with fail
        go_ret
        rw [e1.out]
        exact ⟨none, 0, rfl, OwnStrs.nil_ _ _, b1⟩

theorem cell_stR {w : World} {a b : Addr} {u v : Value} (hne : a ≠ b) (h : w.cell? b = some u) : (w.setCell a v).cell? b = some u := (World.cell?_setCell_other w a b v hne).trans h

/-- Three boxes of two cells, one behind the other. -/
theorem three_boxes (w : World) (x y p q r s : Value) (t1 t2 t3 : TypeId) :
    Cell2 (((w.alloc (.cells #[x, y] t1)).alloc (.cells #[p, q] t2)).alloc (.cells #[r, s] t3)) w.heap.size x y ∧
    Cell2 (((w.alloc (.cells #[x, y] t1)).alloc (.cells #[p, q] t2)).alloc (.cells #[r, s] t3)) (w.heap.size + 1) p q ∧
    Cell2 (((w.alloc (.cells #[x, y] t1)).alloc (.cells #[p, q] t2)).alloc (.cells #[r, s] t3)) (w.heap.size + 2) r s ∧
    ∀ i, (((w.alloc (.cells #[x, y] t1)).alloc (.cells #[p, q] t2)).alloc (.cells #[r, s] t3)).frozen? ⟨w.heap.size + 2, i, none⟩ = false := by
  have e2 : (w.alloc (.cells #[x, y] t1)).heap.size = w.heap.size + 1 := by simp
  have e3 : ((w.alloc (.cells #[x, y] t1)).alloc (.cells #[p, q] t2)).heap.size = w.heap.size + 2 := by simp
  have c2 := (Cell2.new (w.alloc (.cells #[x, y] t1)) p q t2).alloc (.cells #[r, s] t3)
  have c3 := Cell2.new ((w.alloc (.cells #[x, y] t1)).alloc (.cells #[p, q] t2)) r s t3
  have c4 := heap_alloc_new ((w.alloc (.cells #[x, y] t1)).alloc (.cells #[p, q] t2)) (.cells #[r, s] t3)
  rw [e2] at c2
  rw [e3] at c3 c4
  refine ⟨((Cell2.new w x y t1).alloc _).alloc _, c2, c3, fun i => ?_⟩
  unfold World.frozen?
  simp only [c4]
  rfl
set_option maxHeartbeats 4000000 in
theorem iRunFail_any (ver st : Int) (A D : Option Addr) (c d : Nat) (ss : List St) (done : List ByteArray) (nm : ByteArray) (w : World) (B B' : Nat) (h : Sts w B A c ss) (hd : Strs w B' D d done) (hl : ss.length ≤ 2000000) :
    Calls Try.prog 48 #[flowV ver A ss.length c, runV st D done.length d, .string nm] w (RetRun (failSt ver ss st done nm) (failDone ver ss st done nm) (canB ver ss st done nm) w) := by
  have b0 : Below w.heap.size w (((w.alloc (.cells #[.int .i64 ver, .slice A ss.length c] 25)).alloc (.cells #[.int .i64 st, .slice D done.length d] 52)).alloc (.cells #[.int .i64 0, .slice none 0 0] 52)) := (((Below.refl _ _).alloc (Nat.le_refl _) _).alloc (by simp) _).alloc (by simp; omega) _
  go_enter Try.func48, Try.ntmps48
  go_wp2_with fail
  (with_reducible refine (canDo_any ver st A D c d ss done nm _ _ _ (h.then_ b0) (hd.then_ b0) hl).mono ?_)
  rintro e w1 ⟨rfl, hb1⟩
  have b1 := bthen b0 hb1
  obtain ⟨hc, hf⟩ := bcell hb1
  have hz : w.heap.size + 2 < w1.heap.size := by have := hb1.size; simp at this; omega
  have hz1 : w.heap.size + 1 < w1.heap.size := by omega
  have hz0 : w.heap.size < w1.heap.size := by omega
  cases hcan : canB ver ss st done nm
  · have e0 := Lib.hid hcan
    have e1 := Lib.hid (failSt_no hcan)
    have e2 := Lib.hid (failDone_no hcan)
    clear hcan
    go_wp2_with fail
    refine bodyPost_ret (v := .tuple #[.agg #[.int .i64 0, .slice none 0 0], .bool false]) (by simp [results, Try.results48, go_sem, hc]) rfl ?_
    rw [e0.out, e1.out, e2.out]
    exact ⟨none, 0, rfl, OwnStrs.nil_ _ _, (b1.setCell (by show w.heap.size ≤ w.heap.size + 2; omega) _).setCell (by show w.heap.size ≤ w.heap.size + 2; omega) _⟩
  · have e0 := Lib.hid hcan
    have e1 := Lib.hid (failSt_yes hcan)
    have e2 := Lib.hid (failDone_yes hcan)
    have hlen := run_len (canB_iff.1 hcan).1
    have hsub := Lib.hid (run_sub (canB_iff.1 hcan).1)
    clear hcan
    obtain ⟨y1, y2, y3, y4⟩ := three_boxes w (.int .i64 ver) (.slice A ss.length c) (.int .i64 st) (.slice D done.length d) (.int .i64 0) (.slice none 0 0) 25 52 52
    have hS : ∀ wx, Below w1.drew.heap.size w1.drew wx → w.heap.size + 2 < wx.heap.size ∧ (∀ i, wx.frozen? ⟨w.heap.size + 2, i, none⟩ = false) ∧ Sts wx w1.heap.size A c ss ∧ Strs wx w1.heap.size D d done ∧ wx.cell? ⟨w.heap.size, 0, none⟩ = some (.int .i64 ver) ∧ wx.cell? ⟨w.heap.size, 1, none⟩ = some (.slice A ss.length c) ∧ wx.cell? ⟨w.heap.size + 1, 1, none⟩ = some (.slice D done.length d) ∧ wx.cell? ⟨w.heap.size + 2, 0, none⟩ = some (.int .i64 0) ∧ wx.cell? ⟨w.heap.size + 2, 1, none⟩ = some (.slice none 0 0) := by
      intro wx hb
      have hb' := Below.undrew hb
      obtain ⟨hc', hf'⟩ := bcell hb'
      refine ⟨by have := hb'.size; omega, fun i => ?_, h.then_ b1 |>.then_ hb', hd.then_ b1 |>.then_ hb', ?_, ?_, ?_, ?_, ?_⟩
      · rw [hf' _ _ hz, hf (w.heap.size + 2) i (by simp)]; exact y4 i
      · exact ((y1.then_ hb1).then_ hb').c0
      · exact ((y1.then_ hb1).then_ hb').c1
      · exact ((y2.then_ hb1).then_ hb').c1
      · exact ((y3.then_ hb1).then_ hb').c0
      · exact ((y3.then_ hb1).then_ hb').c1
    have HS := Lib.hid hS
    have KB : Hid (∀ wx, Below w1.drew.heap.size w1.drew wx → Calls Try.prog 76 #[flowV ver A ss.length c, .slice D done.length d] wx fun e w' => e = .returned (.int .i64 (backSt ss done)) ∧ Below wx.heap.size wx w' ∧ Below w1.drew.heap.size w1.drew w') := fun wx hb =>
      (back_any ver A D c d ss done wx _ _ (hS wx hb).2.2.1 (hS wx hb).2.2.2.1 hsub).mono fun e w' ⟨he, hw⟩ => ⟨he, hw, bthen hb hw⟩
    have KC : Hid (∀ wx, Below w1.drew.heap.size w1.drew wx → Calls Try.prog 84 #[.slice D done.length d] wx fun e w' => ∃ A' c', e = .returned (.slice A' done.length c') ∧ OwnStrs w' w1.heap.size A' c' done ∧ Below w1.drew.heap.size w1.drew w') := fun wx hb =>
      (clone_any D d done wx _ (hS wx hb).2.2.2.1 (by omega)).mono fun e w' ⟨A', c', he, ho, hw⟩ => ⟨A', c', he, ho.base_ hb.size, bthen hb hw⟩
    have hne : ∀ i j, (⟨w.heap.size + 2, i, none⟩ : Addr) ≠ ⟨w.heap.size, j, none⟩ := fun i j e => by injection e with e; omega
    have hne1 : ∀ i j, (⟨w.heap.size + 2, i, none⟩ : Addr) ≠ ⟨w.heap.size + 1, j, none⟩ := fun i j e => by injection e with e; omega
    have Hne := Lib.hid hne
    have Hne1 := Lib.hid hne1
    have hS0 := HS.out _ (Below.refl _ _)
    have Hf := Lib.hid hf
    have Hc := Lib.hid hc
    clear hS hne hne1 hf hc y1 y2 y3 y4
    go_upto_region 3 with fail
    go_region_held3 (fun wx => wx.cell? ⟨w.heap.size, 0, none⟩ = some (.int .i64 ver) ∧ wx.cell? ⟨w.heap.size, 1, none⟩ = some (.slice A ss.length c) ∧ wx.cell? ⟨w.heap.size + 1, 1, none⟩ = some (.slice D done.length d))
      (first
        | exact And.intro (cell_stR (Hne.out _ _) (cell_stR (Hne.out _ _) k0)) (And.intro (cell_stR (Hne.out _ _) (cell_stR (Hne.out _ _) k1)) (cell_stR (Hne1.out _ _) (cell_stR (Hne1.out _ _) k2)))
        | exact And.intro k0 (And.intro k1 k2) | exact And.intro hA.1 (And.intro hA.2.1 hA.2.2.1) | exact And.intro hS0.2.2.2.2.1 (And.intro hS0.2.2.2.2.2.1 hS0.2.2.2.2.2.2.1))
      (first
        | (go_at_call 76; (with_reducible refine (KB.out _ hba).mono ?_); rintro e wb ⟨rfl, hbs, hbb⟩; have ho8 := ho7.below hbs; obtain ⟨hzb, rf, _, _, k0, k1, k2, k3, k4⟩ := HS.out _ hbb)
        | (go_at_call 84; (with_reducible refine (KC.out _ hba).mono ?_); rintro e wb ⟨A7, c7, rfl, ho8, hbb⟩; obtain ⟨hzb, rf, _, _, k0, k1, k2, k3, k4⟩ := HS.out _ hbb)
        | (go_at_call 76; (with_reducible refine (KB.out _ (Below.refl _ _)).mono ?_); rintro e wa ⟨rfl, hbs, hba⟩; have hA := (HS.out _ hba).2.2.2.2)
        | (go_at_call 84; (with_reducible refine (KC.out _ (Below.refl _ _)).mono ?_); rintro e wa ⟨A7, c7, rfl, ho7, hba⟩; have hA := (HS.out _ hba).2.2.2.2))
    all_goals
      go_wp2_with fail
      refine bodyPost_ret (v := .tuple #[.agg #[.int .i64 (backSt ss done), .slice A7 done.length c7], .bool true]) (by simp [results, Try.results48, go_sem, k3, k4]) rfl ?_
      rw [e0.out, e1.out, e2.out]
      refine ⟨A7, c7, rfl, ?_, ((bthen b1 (Below.undrew hbb)).setCell (by show w.heap.size ≤ w.heap.size + 2; omega) _).setCell (by show w.heap.size ≤ w.heap.size + 2; omega) _⟩
      exact ((ho8.setLow (a := ⟨w.heap.size + 2, 0, none⟩) hz _).setLow (a := ⟨w.heap.size + 2, 1, none⟩) hz _).base_ (by omega)

end Go.Proofs.Ytfkjcldaclkkaaa
