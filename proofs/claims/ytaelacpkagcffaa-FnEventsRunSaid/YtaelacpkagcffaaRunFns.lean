/- Contracts of the program's functions on runs: cloneNames, canDo, RunDo, RunFail, RunUndo, RunNext. Condition: at most 2000000 steps. -/
import Derived.Test.YtaelacpkagcffaaRunValid
import Derived.Test.YtaelacpkagcffaaFlowFns
import Derived.Test.YtaelacpkagcffaaAppend2
namespace Go.Proofs.Ytaelacpkagcffaa
set_option linter.unusedVariables false
set_option maxRecDepth 100000
open Go.RowKit

theorem forth_n (ver : Int) (A D : Option Addr) (c d n : Nat) (ss : List St) (done : List ByteArray) (w : World) (B B' : Nat) (hn : Hid (done.length = n)) (h : Sts w B A c ss) (hd : Strs w B' D d done) :
    Calls Try.prog 75 #[flowV ver A ss.length c, .slice D n d] w fun e w' => e = .returned (.int .i64 (forthSt ss done)) ∧ Below w.heap.size w w' := by
  obtain rfl := hn.out
  exact forth_any ver A D c d ss done w B B' h hd
theorem back_n (ver : Int) (A D : Option Addr) (c d n : Nat) (ss : List St) (done : List ByteArray) (w : World) (B B' : Nat) (hn : Hid (done.length = n)) (h : Sts w B A c ss) (hd : Strs w B' D d done) (hs : Hid (∀ n ∈ done, n ∈ names ss)) :
    Calls Try.prog 76 #[flowV ver A ss.length c, .slice D n d] w fun e w' => e = .returned (.int .i64 (backSt ss done)) ∧ Below w.heap.size w w' := by
  obtain rfl := hn.out
  exact back_any ver A D c d ss done w B B' h hd hs

set_option maxHeartbeats 400000 in
theorem clone_any (A : Option Addr) (c : Nat) (xs : List ByteArray) (w : World) (B : Nat) (h : Strs w B A c xs) (hl : xs.length ≤ 2000000) :
    Calls Try.prog 78 #[.slice A xs.length c] w (RetStrs xs w) := by
  go_enter Try.func78, Try.ntmps78
  go_wp2_with (at_builtin; (refine wpList_append_strs _ rfl (.const (.slice none 0 0)) (.tmp 3) rfl w.heap.size none 0 [] rfl (OwnStrs.nil_ _ _) A c B xs rfl h xs rfl hl (Nat.le_refl _) ?_); intro A3 c3 w3 ho3 hb3 hg3)
  go_ret
  exact ⟨A3, c3, rfl, ho3, hb3⟩
theorem clone_n (A : Option Addr) (c n : Nat) (xs : List ByteArray) (w : World) (B : Nat) (hn : Hid (xs.length = n)) (h : Strs w B A c xs) (hl : xs.length ≤ 2000000) :
    Calls Try.prog 78 #[.slice A n c] w fun e w' => ∃ A' c', e = .returned (.slice A' n c') ∧ OwnStrs w' w.heap.size A' c' xs ∧ Below w.heap.size w w' := by
  obtain rfl := hn.out
  exact clone_any A c xs w B h hl
/-- A run, a name and a word are handed back. -/
def RetUndo (st : Int) (done : List ByteArray) (nm : ByteArray) (ok : Bool) (w : World) (e : Ending) (w' : World) : Prop :=
  ∃ A c, e = .returned (.tuple #[.agg #[.int .i64 st, .slice A done.length c], .string nm, .bool ok]) ∧ OwnStrs w' w.heap.size A c done ∧ Below w.heap.size w w'

set_option maxHeartbeats 1000000 in
theorem canDo_any (ver st : Int) (A D : Option Addr) (c d : Nat) (ss : List St) (done : List ByteArray) (nm : ByteArray) (w : World) (B B' : Nat) (h : Sts w B A c ss) (hd : Strs w B' D d done) (hl : ss.length ≤ 2000000) :
    Calls Try.prog 77 #[flowV ver A ss.length c, runV st D done.length d, .string nm] w fun e w' => e = .returned (.bool (canB ver ss st done nm)) ∧ Below w.heap.size w w' := by
  have b0 : Below w.heap.size w ((w.alloc (.cells #[.int .i64 ver, .slice A ss.length c] 38)).alloc (.cells #[.int .i64 st, .slice D done.length d] 33)) := ((Below.refl _ _).alloc (Nat.le_refl _) _).alloc (by simp) _
  go_enter Try.func77, Try.ntmps77
  go_wp2_with fail
  (with_reducible refine (iRunValid_any ver st A D c d ss done _ _ _ (h.then_ b0) (hd.then_ b0) hl).mono ?_)
  rintro e w1 ⟨rfl, hb1⟩
  have b1 := bthen b0 hb1
  obtain ⟨hc, hf⟩ := bcell hb1
  have hz : w.heap.size + 1 < w1.heap.size := by have := hb1.size; simp at this; omega
  cases hok : runOk ver ss st done
  · have Hf := Lib.hid (canB_noRun hok nm)
    clear hok
    go_wp2_with fail
    go_ret
    exact ⟨ret_bool Hf.out.symm, b1⟩
  · by_cases s0 : st = 0
    · have Hf := Lib.hid (canB_has hok s0 nm)
      have e0 : (st == 0) = true := beq_iff_eq.2 s0
      clear hok s0
      go_wp2_with fail
      (with_reducible refine (ready_any ver A D c d ss done w1 _ _ (h.then_ b1) (hd.then_ b1) hl).mono ?_)
      rintro e w2 ⟨A2, c2, rfl, ho2, hb2⟩
      go_wp2_with fail
      (with_reducible refine (slContains_any _ _ _ _ _ _ ho2.strs).mono ?_)
      rintro e w' ⟨rfl, rfl⟩
      go_wp2_with fail
      go_ret
      exact ⟨ret_bool Hf.out.symm, bthen b1 hb2⟩
    · have Hf := Lib.hid (canB_noSt (ver := ver) (ss := ss) (done := done) s0 nm)
      have e0 : (st == 0) = false := beq_eq_false_iff_ne.2 s0
      clear hok s0
      go_wp2_with fail
      go_ret
      exact ⟨ret_bool Hf.out.symm, b1⟩

set_option maxHeartbeats 2000000 in
theorem iRunDo_any (ver st : Int) (A D : Option Addr) (c d : Nat) (ss : List St) (done : List ByteArray) (nm : ByteArray) (w : World) (B B' : Nat) (h : Sts w B A c ss) (hd : Strs w B' D d done) (hnm : nm.size ≤ 9223372036854775807) (hl : ss.length ≤ 2000000) :
    Calls Try.prog 40 #[flowV ver A ss.length c, runV st D done.length d, .string nm] w (RetRun (doSt ver ss st done nm) (doDone ver ss st done nm) (canB ver ss st done nm) w) := by
  have b0 : Below w.heap.size w (((w.alloc (.cells #[.int .i64 ver, .slice A ss.length c] 38)).alloc (.cells #[.int .i64 st, .slice D done.length d] 33)).alloc (.cells #[.int .i64 0, .slice none 0 0] 33)) := (((Below.refl _ _).alloc (Nat.le_refl _) _).alloc (by simp) _).alloc (by simp; omega) _
  go_enter Try.func40, Try.ntmps40
  go_wp2_with fail
  (with_reducible refine (canDo_any ver st A D c d ss done nm _ _ _ (h.then_ b0) (hd.then_ b0) hl).mono ?_)
  rintro e w1 ⟨rfl, hb1⟩
  have b1 := bthen b0 hb1
  obtain ⟨hc, hf⟩ := bcell hb1
  have hz : w.heap.size + 2 < w1.heap.size := by have := hb1.size; simp at this; omega
  have hz1 : w.heap.size + 1 < w1.heap.size := by omega
  have hz0 : w.heap.size < w1.heap.size := by omega
  cases hcan : canB ver ss st done nm
  · have e0 := Lib.hid hcan
    have e1 := Lib.hid (doSt_no hcan)
    have e2 := Lib.hid (doDone_no hcan)
    clear hcan
    go_wp2_with fail
    refine bodyPost_ret (v := .tuple #[.agg #[.int .i64 0, .slice none 0 0], .bool false]) (by simp [results, Try.results40, go_sem, hc]) rfl ?_
    rw [e0.out, e1.out, e2.out]
    exact ⟨none, 0, rfl, OwnStrs.nil_ _ _, (b1.setCell (by show w.heap.size ≤ w.heap.size + 2; omega) _).setCell (by show w.heap.size ≤ w.heap.size + 2; omega) _⟩
  · have e0 := Lib.hid hcan
    have e1 := Lib.hid (doSt_yes hcan)
    have e2 := Lib.hid (doDone_yes hcan)
    have hlen := can_len hcan
    have hln : done.length + 1 ≤ ss.length := by simpa using hlen
    clear hcan hlen
    go_wp2_with fail
    (with_reducible refine (clone_any D d done w1 _ (hd.then_ b1) (by omega)).mono ?_)
    rintro e w2 ⟨A2, c2, rfl, ho2, hb2⟩
    go_wp2_with (at_builtin; (refine wpList_append_name _ rfl (.tmp 17) (.tmp 19) rfl w1.heap.size A2 c2 done rfl (ho2.alloc _) ⟨w2.heap.size, 0, none⟩ 1 nm rfl (cell_new1 _ _ _) hnm (by omega) (by have := hb2.size; simp; omega) ?_); intro A3 c3 w3 hap; have hb3 := (hb2.alloc hb2.size _).trans hap.low; obtain ⟨hc3, hf3⟩ := bcell hb3; have ho3 := hap.own)
    have b3 := bthen b1 hb3
    (with_reducible refine (forth_n ver A A3 c c3 (done.length + 1) ss (done ++ [nm]) _ _ _ (Lib.hid (by simp)) (h.then_ b3) ho3.strs).mono ?_)
    rintro e w4 ⟨rfl, hb4⟩
    have hb5 := bthen hb3 hb4
    have b5 := bthen b1 hb5
    have ho4 := ho3.below hb4
    clear hc3 hf3
    obtain ⟨hc3, hf3⟩ := bcell hb5
    clear hb5 hb4 hb3 hap ho3 b3
    go_wp2_with fail
    refine bodyPost_ret (v := .tuple #[.agg #[.int .i64 (forthSt ss (done ++ [nm])), .slice A3 (done.length + 1) c3], .bool true]) (by simp [results, Try.results40, go_sem, hc3, hc, hz]) rfl ?_
    rw [e0.out, e1.out, e2.out]
    refine ⟨A3, c3, by simp, ?_, (b5.setCell (by show w.heap.size ≤ w.heap.size + 2; omega) _).setCell (by show w.heap.size ≤ w.heap.size + 2; omega) _⟩
    exact ((ho4.setLow (a := ⟨w.heap.size + 2, 0, none⟩) hz _).setLow (a := ⟨w.heap.size + 2, 1, none⟩) hz _).base_ (by omega)

set_option maxHeartbeats 2000000 in
theorem iRunNext_any (ver st : Int) (A D : Option Addr) (c d : Nat) (ss : List St) (done : List ByteArray) (w : World) (B B' : Nat) (h : Sts w B A c ss) (hd : Strs w B' D d done) (hl : ss.length ≤ 2000000) :
    Calls Try.prog 44 #[flowV ver A ss.length c, runV st D done.length d] w (RetStrs (nextOut ver ss st done) w) := by
  have hd1 := hd.len
  have hd2 := hd.cap
  have b0 : Below w.heap.size w ((w.alloc (.cells #[.int .i64 ver, .slice A ss.length c] 38)).alloc (.cells #[.int .i64 st, .slice D done.length d] 33)) := ((Below.refl _ _).alloc (Nat.le_refl _) _).alloc (by simp) _
  go_enter Try.func44, Try.ntmps44
  go_wp2_with fail
  (with_reducible refine (iRunValid_any ver st A D c d ss done _ _ _ (h.then_ b0) (hd.then_ b0) hl).mono ?_)
  rintro e w1 ⟨rfl, hb1⟩
  have b1 := bthen b0 hb1
  obtain ⟨hc, hf⟩ := bcell hb1
  have hz : w.heap.size + 1 < w1.heap.size := by have := hb1.size; simp at this; omega
  have hz0 : w.heap.size < w1.heap.size := by omega
  cases hok : runOk ver ss st done
  · have e1 := Lib.hid (nextOut_no hok)
    clear hok
    go_wp2_with fail
    go_ret
    rw [e1.out]
    exact ⟨none, 0, rfl, OwnStrs.nil_ _ _, b1⟩
  · by_cases s0 : st = 0
    · subst s0
      have e1 := Lib.hid (nextOut_zero hok)
      clear hok
      go_wp2_with fail
      (with_reducible refine (ready_any ver A D c d ss done w1 _ _ (h.then_ b1) (hd.then_ b1) hl).mono ?_)
      rintro e w2 ⟨A2, c2, rfl, ho2, hb2⟩
      go_wp2_with fail
      go_ret
      rw [e1.out]
      exact ⟨A2, c2, rfl, ho2.base_ (by omega), bthen b1 hb2⟩
    · by_cases s1 : st = 1
      · subst s1
        have e1 := Lib.hid (nextOut_one hok)
        have hp := back_pos hok
        have hg := Lib.hid (getLastD_eq hp)
        clear hok
        obtain ⟨ad, rfl, _, hcell⟩ := (hd.then_ b1).at_ (k := done.length - 1) (by omega)
        have hj0 : (0 : Int) < done.length := by omega
        have hj1 : (0 : Int) ≤ (done.length : Int) - 1 := by omega
        have hj2 : (1 : Int) ≤ done.length := by omega
        have hj3 : (done.length : Int) - 1 < done.length := by omega
        have hj4 : IntKind.i64.wrap ((done.length : Int) - 1) = (done.length : Int) - 1 := IntWalk.i64_in _ (by omega)
        have hj5 : ((done.length : Int) - 1).toNat = done.length - 1 := by omega
        go_wp2_with fail
        go_ret
        rw [e1.out, hg.out]
        have hx : ∀ x ∈ [done[done.length - 1]'(by omega)], x.size ≤ 9223372036854775807 := by
          intro x hx
          simp at hx
          subst hx
          exact hd.lens _ _
        exact ⟨some ⟨w1.heap.size, 0, none⟩, 1, rfl, ⟨World.ownsRow_lit w1 #[.string (done[done.length - 1]'(by omega))] _ (by omega) (by show 1 ≤ maxLen; decide) rfl, hx⟩, b1.alloc b1.size _⟩
      · have e1 := Lib.hid (nextOut_end hok s0 s1)
        have n0 : (st == 0) = false := beq_eq_false_iff_ne.2 s0
        have n1 : (st == 1) = false := beq_eq_false_iff_ne.2 s1
        clear hok s0 s1
        go_wp2_with fail
        go_ret
        rw [e1.out]
        exact ⟨none, 0, rfl, OwnStrs.nil_ _ _, b1⟩

theorem cell_stR {w : World} {a b : Addr} {u v : Value} (hne : a ≠ b) (h : w.cell? b = some u) : (w.setCell a v).cell? b = some u := (World.cell?_setCell_other w a b v hne).trans h

/-- Three boxes of two cells, one behind the other. -/
theorem three_boxes (w : World) (x y p q r s : Value) (t1 t2 t3 : TypeId) :
    Cell2 (((w.alloc (.cells #[x, y] t1)).alloc (.cells #[p, q] t2)).alloc (.cells #[r, s] t3)) w.heap.size x y ∧
    Cell2 (((w.alloc (.cells #[x, y] t1)).alloc (.cells #[p, q] t2)).alloc (.cells #[r, s] t3)) (w.heap.size + 1) p q ∧
    Cell2 (((w.alloc (.cells #[x, y] t1)).alloc (.cells #[p, q] t2)).alloc (.cells #[r, s] t3)) (w.heap.size + 2) r s ∧
    ∀ i, (((w.alloc (.cells #[x, y] t1)).alloc (.cells #[p, q] t2)).alloc (.cells #[r, s] t3)).frozen? ⟨w.heap.size + 2, i, none⟩ = false := by
  have e2 : (w.alloc (.cells #[x, y] t1)).heap.size = w.heap.size + 1 := by simp
  have e3 : ((w.alloc (.cells #[x, y] t1)).alloc (.cells #[p, q] t2)).heap.size = w.heap.size + 2 := by simp
  have c2 := (Cell2.new (w.alloc (.cells #[x, y] t1)) p q t2).alloc (.cells #[r, s] t3)
  have c3 := Cell2.new ((w.alloc (.cells #[x, y] t1)).alloc (.cells #[p, q] t2)) r s t3
  have c4 := heap_alloc_new ((w.alloc (.cells #[x, y] t1)).alloc (.cells #[p, q] t2)) (.cells #[r, s] t3)
  rw [e2] at c2
  rw [e3] at c3 c4
  refine ⟨((Cell2.new w x y t1).alloc _).alloc _, c2, c3, fun i => ?_⟩
  unfold World.frozen?
  simp only [c4]
  rfl
set_option maxHeartbeats 4000000 in
theorem iRunFail_any (ver st : Int) (A D : Option Addr) (c d : Nat) (ss : List St) (done : List ByteArray) (nm : ByteArray) (w : World) (B B' : Nat) (h : Sts w B A c ss) (hd : Strs w B' D d done) (hl : ss.length ≤ 2000000) :
    Calls Try.prog 41 #[flowV ver A ss.length c, runV st D done.length d, .string nm] w (RetRun (failSt ver ss st done nm) (failDone ver ss st done nm) (canB ver ss st done nm) w) := by
  have b0 : Below w.heap.size w (((w.alloc (.cells #[.int .i64 ver, .slice A ss.length c] 38)).alloc (.cells #[.int .i64 st, .slice D done.length d] 33)).alloc (.cells #[.int .i64 0, .slice none 0 0] 33)) := (((Below.refl _ _).alloc (Nat.le_refl _) _).alloc (by simp) _).alloc (by simp; omega) _
  go_enter Try.func41, Try.ntmps41
  go_wp2_with fail
  (with_reducible refine (canDo_any ver st A D c d ss done nm _ _ _ (h.then_ b0) (hd.then_ b0) hl).mono ?_)
  rintro e w1 ⟨rfl, hb1⟩
  have b1 := bthen b0 hb1
  obtain ⟨hc, hf⟩ := bcell hb1
  have hz : w.heap.size + 2 < w1.heap.size := by have := hb1.size; simp at this; omega
  have hz1 : w.heap.size + 1 < w1.heap.size := by omega
  have hz0 : w.heap.size < w1.heap.size := by omega
  cases hcan : canB ver ss st done nm
  · have e0 := Lib.hid hcan
    have e1 := Lib.hid (failSt_no hcan)
    have e2 := Lib.hid (failDone_no hcan)
    clear hcan
    go_wp2_with fail
    refine bodyPost_ret (v := .tuple #[.agg #[.int .i64 0, .slice none 0 0], .bool false]) (by simp [results, Try.results41, go_sem, hc]) rfl ?_
    rw [e0.out, e1.out, e2.out]
    exact ⟨none, 0, rfl, OwnStrs.nil_ _ _, (b1.setCell (by show w.heap.size ≤ w.heap.size + 2; omega) _).setCell (by show w.heap.size ≤ w.heap.size + 2; omega) _⟩
  · have e0 := Lib.hid hcan
    have e1 := Lib.hid (failSt_yes hcan)
    have e2 := Lib.hid (failDone_yes hcan)
    have hlen := run_len (canB_iff.1 hcan).1
    have hsub := Lib.hid (run_sub (canB_iff.1 hcan).1)
    clear hcan
    obtain ⟨y1, y2, y3, y4⟩ := three_boxes w (.int .i64 ver) (.slice A ss.length c) (.int .i64 st) (.slice D done.length d) (.int .i64 0) (.slice none 0 0) 38 33 33
    have hS : ∀ wx, Below w1.drew.heap.size w1.drew wx → w.heap.size + 2 < wx.heap.size ∧ (∀ i, wx.frozen? ⟨w.heap.size + 2, i, none⟩ = false) ∧ Sts wx w1.heap.size A c ss ∧ Strs wx w1.heap.size D d done ∧ wx.cell? ⟨w.heap.size, 0, none⟩ = some (.int .i64 ver) ∧ wx.cell? ⟨w.heap.size, 1, none⟩ = some (.slice A ss.length c) ∧ wx.cell? ⟨w.heap.size + 1, 1, none⟩ = some (.slice D done.length d) ∧ wx.cell? ⟨w.heap.size + 2, 0, none⟩ = some (.int .i64 0) ∧ wx.cell? ⟨w.heap.size + 2, 1, none⟩ = some (.slice none 0 0) := by
      intro wx hb
      have hb' := Below.undrew hb
      obtain ⟨hc', hf'⟩ := bcell hb'
      refine ⟨by have := hb'.size; omega, fun i => ?_, h.then_ b1 |>.then_ hb', hd.then_ b1 |>.then_ hb', ?_, ?_, ?_, ?_, ?_⟩
      · rw [hf' _ _ hz, hf (w.heap.size + 2) i (by simp)]; exact y4 i
      · exact ((y1.then_ hb1).then_ hb').c0
      · exact ((y1.then_ hb1).then_ hb').c1
      · exact ((y2.then_ hb1).then_ hb').c1
      · exact ((y3.then_ hb1).then_ hb').c0
      · exact ((y3.then_ hb1).then_ hb').c1
    have HS := Lib.hid hS
    have KB : Hid (∀ wx, Below w1.drew.heap.size w1.drew wx → Calls Try.prog 76 #[flowV ver A ss.length c, .slice D done.length d] wx fun e w' => e = .returned (.int .i64 (backSt ss done)) ∧ Below wx.heap.size wx w' ∧ Below w1.drew.heap.size w1.drew w') := fun wx hb =>
      (back_any ver A D c d ss done wx _ _ (hS wx hb).2.2.1 (hS wx hb).2.2.2.1 hsub).mono fun e w' ⟨he, hw⟩ => ⟨he, hw, bthen hb hw⟩
    have KC : Hid (∀ wx, Below w1.drew.heap.size w1.drew wx → Calls Try.prog 78 #[.slice D done.length d] wx fun e w' => ∃ A' c', e = .returned (.slice A' done.length c') ∧ OwnStrs w' w1.heap.size A' c' done ∧ Below w1.drew.heap.size w1.drew w') := fun wx hb =>
      (clone_any D d done wx _ (hS wx hb).2.2.2.1 (by omega)).mono fun e w' ⟨A', c', he, ho, hw⟩ => ⟨A', c', he, ho.base_ hb.size, bthen hb hw⟩
    have hne : ∀ i j, (⟨w.heap.size + 2, i, none⟩ : Addr) ≠ ⟨w.heap.size, j, none⟩ := fun i j e => by injection e with e; omega
    have hne1 : ∀ i j, (⟨w.heap.size + 2, i, none⟩ : Addr) ≠ ⟨w.heap.size + 1, j, none⟩ := fun i j e => by injection e with e; omega
    have Hne := Lib.hid hne
    have Hne1 := Lib.hid hne1
    have hS0 := HS.out _ (Below.refl _ _)
    have Hf := Lib.hid hf
    have Hc := Lib.hid hc
    clear hS hne hne1 hf hc y1 y2 y3 y4
    go_upto_region 3 with fail
    go_region_held3 (fun wx => wx.cell? ⟨w.heap.size, 0, none⟩ = some (.int .i64 ver) ∧ wx.cell? ⟨w.heap.size, 1, none⟩ = some (.slice A ss.length c) ∧ wx.cell? ⟨w.heap.size + 1, 1, none⟩ = some (.slice D done.length d))
      (first
        | exact And.intro (cell_stR (Hne.out _ _) (cell_stR (Hne.out _ _) k0)) (And.intro (cell_stR (Hne.out _ _) (cell_stR (Hne.out _ _) k1)) (cell_stR (Hne1.out _ _) (cell_stR (Hne1.out _ _) k2)))
        | exact And.intro k0 (And.intro k1 k2) | exact And.intro hA.1 (And.intro hA.2.1 hA.2.2.1) | exact And.intro hS0.2.2.2.2.1 (And.intro hS0.2.2.2.2.2.1 hS0.2.2.2.2.2.2.1))
      (first
        | (go_at_call 76; (with_reducible refine (KB.out _ hba).mono ?_); rintro e wb ⟨rfl, hbs, hbb⟩; have ho8 := ho7.below hbs; obtain ⟨hzb, rf, _, _, k0, k1, k2, k3, k4⟩ := HS.out _ hbb)
        | (go_at_call 78; (with_reducible refine (KC.out _ hba).mono ?_); rintro e wb ⟨A7, c7, rfl, ho8, hbb⟩; obtain ⟨hzb, rf, _, _, k0, k1, k2, k3, k4⟩ := HS.out _ hbb)
        | (go_at_call 76; (with_reducible refine (KB.out _ (Below.refl _ _)).mono ?_); rintro e wa ⟨rfl, hbs, hba⟩; have hA := (HS.out _ hba).2.2.2.2)
        | (go_at_call 78; (with_reducible refine (KC.out _ (Below.refl _ _)).mono ?_); rintro e wa ⟨A7, c7, rfl, ho7, hba⟩; have hA := (HS.out _ hba).2.2.2.2))
    all_goals
      go_wp2_with fail
      refine bodyPost_ret (v := .tuple #[.agg #[.int .i64 (backSt ss done), .slice A7 done.length c7], .bool true]) (by simp [results, Try.results41, go_sem, k3, k4]) rfl ?_
      rw [e0.out, e1.out, e2.out]
      refine ⟨A7, c7, rfl, ?_, ((bthen b1 (Below.undrew hbb)).setCell (by show w.heap.size ≤ w.heap.size + 2; omega) _).setCell (by show w.heap.size ≤ w.heap.size + 2; omega) _⟩
      exact ((ho8.setLow (a := ⟨w.heap.size + 2, 0, none⟩) hz _).setLow (a := ⟨w.heap.size + 2, 1, none⟩) hz _).base_ (by omega)

set_option maxHeartbeats 4000000 in
theorem iRunUndo_any (ver st : Int) (A D : Option Addr) (c d : Nat) (ss : List St) (done : List ByteArray) (w : World) (B B' : Nat) (h : Sts w B A c ss) (hd : Strs w B' D d done) (hl : ss.length ≤ 2000000) :
    Calls Try.prog 54 #[flowV ver A ss.length c, runV st D done.length d] w (RetUndo (undoSt ver ss st done) (undoDone ver ss st done) (undoName ver ss st done) (undoB ver ss st done) w) := by
  have hd1 := hd.len
  have hd2 := hd.cap
  have b0 : Below w.heap.size w (((w.alloc (.cells #[.int .i64 ver, .slice A ss.length c] 38)).alloc (.cells #[.int .i64 st, .slice D done.length d] 33)).alloc (.cells #[.int .i64 0, .slice none 0 0] 33)) := (((Below.refl _ _).alloc (Nat.le_refl _) _).alloc (by simp) _).alloc (by simp; omega) _
  go_enter Try.func54, Try.ntmps54
  go_wp2_with fail
  (with_reducible refine (iRunValid_any ver st A D c d ss done _ _ _ (h.then_ b0) (hd.then_ b0) hl).mono ?_)
  rintro e w1 ⟨rfl, hb1⟩
  have b1 := bthen b0 hb1
  obtain ⟨hc, hf⟩ := bcell hb1
  have hz : w.heap.size + 2 < w1.heap.size := by have := hb1.size; simp at this; omega
  have hz1 : w.heap.size + 1 < w1.heap.size := by omega
  have hz0 : w.heap.size < w1.heap.size := by omega
  cases hok : runOk ver ss st done
  · have hu := undoB_noRun hok
    have e1 := Lib.hid (undoSt_no hu)
    have e2 := Lib.hid (undoDone_no hu)
    have e3 := Lib.hid (undoName_no hu)
    have e4 := Lib.hid hu
    clear hok hu
    go_wp2_with fail
    refine bodyPost_ret (v := .tuple #[.agg #[.int .i64 0, .slice none 0 0], .string ⟨#[]⟩, .bool false]) (by simp [results, Try.results54, go_sem, hc]) rfl ?_
    rw [e1.out, e2.out, e3.out, e4.out]
    exact ⟨none, 0, rfl, OwnStrs.nil_ _ _, (b1.setCell (by show w.heap.size ≤ w.heap.size + 2; omega) _).setCell (by show w.heap.size ≤ w.heap.size + 2; omega) _⟩
  · by_cases s1 : st = 1
    · subst s1
      have hu : undoB ver ss 1 done = true := undoB_iff.2 ⟨hok, rfl⟩
      have hp := back_pos hok
      obtain ⟨pre, hpre⟩ : ∃ pre, pre = done.take (done.length - 1) := ⟨_, rfl⟩
      obtain ⟨lst, hlst⟩ : ∃ lst, lst = done[done.length - 1]'(by omega) := ⟨_, rfl⟩
      have e1 := Lib.hid ((undoSt_yes hu).trans (by rw [← hpre]))
      have e2 := Lib.hid ((undoDone_yes hu).trans hpre.symm)
      have e3 := Lib.hid (((undoName_yes hu).trans (getLastD_eq hp)).trans hlst.symm)
      have e4 := Lib.hid hu
      have hlen := run_len hok
      have hpl : Hid (pre.length = done.length - 1) := Lib.hid (by rw [hpre, List.length_take]; omega)
      have hsub : Hid (∀ n ∈ pre, n ∈ names ss) := Lib.hid (fun n hn => run_sub hok n (by rw [hpre] at hn; exact List.mem_of_mem_take hn))
      obtain ⟨ad, rfl, _, hcell⟩ := hd.at_ (k := done.length - 1) (by omega)
      rw [← hlst] at hcell
      have hdp : Strs w B' (some ad) d pre := by rw [hpre]; exact hd.take _
      have hj0 : (0 : Int) < done.length := by omega
      have hj1 : (0 : Int) ≤ (done.length : Int) - 1 := by omega
      have hj2 : (1 : Int) ≤ done.length := by omega
      have hj3 : (done.length : Int) - 1 < done.length := by omega
      have hj4 : IntKind.i64.wrap ((done.length : Int) - 1) = (done.length : Int) - 1 := IntWalk.i64_in _ (by omega)
      have hj5 : ((done.length : Int) - 1).toNat = done.length - 1 := by omega
      have hj6 : (done.length : Int) - 1 ≤ d := by omega
      have hc1 := (b1.cell (World.block_lt_of_cell? w _ hcell)).trans hcell
      have hadw : ad.block < w.heap.size := by have := World.block_lt_of_cell? w _ hcell; rwa [block_of_add] at this
      have Hlst := Lib.hid hlst
      clear hok hu hpre hlst hcell
      go_wp2_with fail
      (with_reducible refine (clone_n (some ad) d (done.length - 1) pre w1 _ hpl (hdp.then_ b1) (by have := hpl.out; omega)).mono ?_)
      rintro e w2 ⟨A2, c2, rfl, ho2, hb2⟩
      have b2 := bthen b1 hb2
      obtain ⟨y1, y2, y3, y4⟩ := three_boxes w (.int .i64 ver) (.slice A ss.length c) (.int .i64 1) (.slice (some ad) done.length d) (.int .i64 0) (.slice none 0 0) 38 33 33
      have hS : ∀ wx, Below w2.drew.heap.size w2.drew wx → w.heap.size + 2 < wx.heap.size ∧ (∀ i, wx.frozen? ⟨w.heap.size + 2, i, none⟩ = false) ∧ wx.cell? ⟨w.heap.size, 0, none⟩ = some (.int .i64 ver) ∧ wx.cell? ⟨w.heap.size, 1, none⟩ = some (.slice A ss.length c) ∧ wx.cell? ⟨w.heap.size + 1, 1, none⟩ = some (.slice (some ad) done.length d) ∧ wx.cell? (ad.add (done.length - 1)) = some (.string lst) ∧ wx.cell? ⟨w.heap.size + 2, 0, none⟩ = some (.int .i64 0) ∧ wx.cell? ⟨w.heap.size + 2, 1, none⟩ = some (.slice none 0 0) := by
        intro wx hb
        have hb' := bthen hb2 (Below.undrew hb)
        obtain ⟨hc', hf'⟩ := bcell hb'
        refine ⟨by have := hb'.size; omega, fun i => ?_, ?_, ?_, ?_, ?_, ?_, ?_⟩
        · rw [hf' _ _ hz, hf (w.heap.size + 2) i (by simp)]; exact y4 i
        · exact ((y1.then_ hb1).then_ hb').c0
        · exact ((y1.then_ hb1).then_ hb').c1
        · exact ((y2.then_ hb1).then_ hb').c1
        · exact (hb'.cell (World.block_lt_of_cell? w1 _ hc1)).trans hc1
        · exact ((y3.then_ hb1).then_ hb').c0
        · exact ((y3.then_ hb1).then_ hb').c1
      have HS := Lib.hid hS
      have hS0 := HS.out _ (Below.refl _ _)
      have KB := Lib.hid (back_n ver A A2 c c2 (done.length - 1) ss pre w2.drew _ _ hpl (h.then_ b2).drew ho2.strs.drew hsub)
      have hne : ∀ i j, (⟨w.heap.size + 2, i, none⟩ : Addr) ≠ ⟨w.heap.size, j, none⟩ := fun i j e => by injection e with e; omega
      have hne1 : ∀ i j, (⟨w.heap.size + 2, i, none⟩ : Addr) ≠ ⟨w.heap.size + 1, j, none⟩ := fun i j e => by injection e with e; omega
      have hne2 : ∀ i, (⟨w.heap.size + 2, i, none⟩ : Addr) ≠ ad.add (done.length - 1) := fun i e => by
        have := congrArg Addr.block e
        rw [block_of_add] at this
        have h2 : w.heap.size + 2 = ad.block := this
        omega
      have Hne := Lib.hid hne
      have Hne1 := Lib.hid hne1
      have Hne2 := Lib.hid hne2
      clear hS hne hne1 hne2 hf hc hc1 y1 y2 y3 y4
      obtain ⟨x0, x1, x2, x3, x4, x5, x6, x7⟩ := hS0
      go_wp2_with fail
      go_region_held3 (fun wx => wx.cell? ⟨w.heap.size, 0, none⟩ = some (.int .i64 ver) ∧ wx.cell? ⟨w.heap.size, 1, none⟩ = some (.slice A ss.length c) ∧ wx.cell? ⟨w.heap.size + 1, 1, none⟩ = some (.slice (some ad) done.length d) ∧ wx.cell? (ad.add (done.length - 1)) = some (.string lst))
        (first
          | exact And.intro (cell_stR (Hne.out _ _) (cell_stR (Hne.out _ _) k0)) (And.intro (cell_stR (Hne.out _ _) (cell_stR (Hne.out _ _) k1)) (And.intro (cell_stR (Hne1.out _ _) (cell_stR (Hne1.out _ _) k2)) (cell_stR (Hne2.out _) (cell_stR (Hne2.out _) k3))))
          | exact And.intro k0 (And.intro k1 (And.intro k2 k3)) | exact And.intro x2 (And.intro x3 (And.intro x4 x5)))
        ((go_at_call 76; (with_reducible refine KB.out.mono ?_); rintro e wb ⟨rfl, hbb⟩; obtain ⟨hzb, rf, k0, k1, k2, k3, k4, k5⟩ := HS.out _ hbb))
      go_wp2_with fail
      refine bodyPost_ret (v := .tuple #[.agg #[.int .i64 (backSt ss pre), .slice A2 (done.length - 1) c2], .string lst, .bool true]) (by simp [results, Try.results54, go_sem, k4, k5]) rfl ?_
      rw [e1.out, e2.out, e3.out, e4.out]
      refine ⟨A2, c2, by rw [hpl.out], ?_, ((bthen b2 (Below.undrew hbb)).setCell (by show w.heap.size ≤ w.heap.size + 2; omega) _).setCell (by show w.heap.size ≤ w.heap.size + 2; omega) _⟩
      exact (((ho2.below (Below.undrew hbb)).setLow (a := ⟨w.heap.size + 2, 0, none⟩) hz _).setLow (a := ⟨w.heap.size + 2, 1, none⟩) hz _).base_ (by omega)
    · have hu := undoB_noSt (ver := ver) (ss := ss) (done := done) s1
      have e1 := Lib.hid (undoSt_no hu)
      have e2 := Lib.hid (undoDone_no hu)
      have e3 := Lib.hid (undoName_no hu)
      have e4 := Lib.hid hu
      have n1 : (st == 1) = false := beq_eq_false_iff_ne.2 s1
      have n2 : (st != 1) = true := by rw [bne_iff_ne]; exact s1
      clear hok hu s1
      go_wp2_with fail
      refine bodyPost_ret (v := .tuple #[.agg #[.int .i64 0, .slice none 0 0], .string ⟨#[]⟩, .bool false]) (by simp [results, Try.results54, go_sem, hc]) rfl ?_
      rw [e1.out, e2.out, e3.out, e4.out]
      exact ⟨none, 0, rfl, OwnStrs.nil_ _ _, (b1.setCell (by show w.heap.size ≤ w.heap.size + 2; omega) _).setCell (by show w.heap.size ≤ w.heap.size + 2; omega) _⟩
end Go.Proofs.Ytaelacpkagcffaa
