/- Contracts of the program's functions on runs: cloneNames, canDo, RunDo, RunFail, RunUndo, RunNext. Condition: at most 2000000 steps. -/
import Derived.Test.YtcammncomeiciaaRunValid
import Derived.Test.YtcammncomeiciaaFlowFns
import Derived.Test.YtcammncomeiciaaAppend2
namespace Go.Proofs.Ytcammncomeiciaa
set_option linter.unusedVariables false
open Go.RowKit

theorem forth_n (ver : Int) (A D : Option Addr) (c d n : Nat) (ss : List St) (done : List ByteArray) (w : World) (B B' : Nat) (hn : Hid (done.length = n)) (h : Sts w B A c ss) (hd : Strs w B' D d done) :
    Calls Try.prog 65 #[flowV ver A ss.length c, .slice D n d] w fun e w' => e = .returned (.int .i64 (forthSt ss done)) ∧ Below w.heap.size w w' := by
  obtain rfl := hn.out
  exact forth_any ver A D c d ss done w B B' h hd
theorem back_n (ver : Int) (A D : Option Addr) (c d n : Nat) (ss : List St) (done : List ByteArray) (w : World) (B B' : Nat) (hn : Hid (done.length = n)) (h : Sts w B A c ss) (hd : Strs w B' D d done) (hs : Hid (∀ n ∈ done, n ∈ names ss)) :
    Calls Try.prog 66 #[flowV ver A ss.length c, .slice D n d] w fun e w' => e = .returned (.int .i64 (backSt ss done)) ∧ Below w.heap.size w w' := by
  obtain rfl := hn.out
  exact back_any ver A D c d ss done w B B' h hd hs

set_option maxHeartbeats 400000 in
theorem clone_any (A : Option Addr) (c : Nat) (xs : List ByteArray) (w : World) (B : Nat) (h : Strs w B A c xs) (hl : xs.length ≤ 2000000) :
    Calls Try.prog 68 #[.slice A xs.length c] w (RetStrs xs w) := by
  go_enter Try.func68, Try.ntmps68
  go_wp2_with (at_builtin; (refine wpList_append_strs _ rfl (.const (.slice none 0 0)) (.tmp 3) rfl w.heap.size none 0 [] rfl (OwnStrs.nil_ _ _) A c B xs rfl h xs rfl hl (Nat.le_refl _) ?_); intro A3 c3 w3 ho3 hb3 hg3)
  go_ret
  exact ⟨A3, c3, rfl, ho3, hb3⟩
theorem clone_n (A : Option Addr) (c n : Nat) (xs : List ByteArray) (w : World) (B : Nat) (hn : Hid (xs.length = n)) (h : Strs w B A c xs) (hl : xs.length ≤ 2000000) :
    Calls Try.prog 68 #[.slice A n c] w fun e w' => ∃ A' c', e = .returned (.slice A' n c') ∧ OwnStrs w' w.heap.size A' c' xs ∧ Below w.heap.size w w' := by
  obtain rfl := hn.out
  exact clone_any A c xs w B h hl
/-- A run, a name and a word are handed back. -/
def RetUndo (st : Int) (done : List ByteArray) (nm : ByteArray) (ok : Bool) (w : World) (e : Ending) (w' : World) : Prop :=
  ∃ A c, e = .returned (.tuple #[.agg #[.int .i64 st, .slice A done.length c], .string nm, .bool ok]) ∧ OwnStrs w' w.heap.size A c done ∧ Below w.heap.size w w'

set_option maxHeartbeats 1000000 in
theorem canDo_any (ver st : Int) (A D : Option Addr) (c d : Nat) (ss : List St) (done : List ByteArray) (nm : ByteArray) (w : World) (B B' : Nat) (h : Sts w B A c ss) (hd : Strs w B' D d done) (hl : ss.length ≤ 2000000) :
    Calls Try.prog 67 #[flowV ver A ss.length c, runV st D done.length d, .string nm] w fun e w' => e = .returned (.bool (canB ver ss st done nm)) ∧ Below w.heap.size w w' := by
  have b0 : Below w.heap.size w ((w.alloc (.cells #[.int .i64 ver, .slice A ss.length c] 25)).alloc (.cells #[.int .i64 st, .slice D done.length d] 47)) := ((Below.refl _ _).alloc (Nat.le_refl _) _).alloc (by simp) _
  go_enter Try.func67, Try.ntmps67
  go_wp2_with fail
  (with_reducible refine (iRunValid_any ver st A D c d ss done _ _ _ (h.then_ b0) (hd.then_ b0) hl).mono ?_)
  rintro e w1 ⟨rfl, hb1⟩
  have b1 := bthen b0 hb1
  obtain ⟨hc, hf⟩ := bcell hb1
  have hz : w.heap.size + 1 < w1.heap.size := by have := hb1.size; simp at this; omega
  cases hok : runOk ver ss st done
  · have Hf := Lib.hid (canB_noRun hok nm)
    clear hok
    go_wp2_with fail
    go_ret
    exact ⟨ret_bool Hf.out.symm, b1⟩
  · by_cases s0 : st = 0
    · have Hf := Lib.hid (canB_has hok s0 nm)
      have e0 : (st == 0) = true := beq_iff_eq.2 s0
      clear hok s0
      go_wp2_with fail
      (with_reducible refine (ready_any ver A D c d ss done w1 _ _ (h.then_ b1) (hd.then_ b1) hl).mono ?_)
      rintro e w2 ⟨A2, c2, rfl, ho2, hb2⟩
      go_wp2_with fail
      (with_reducible refine (slContains_any _ _ _ _ _ _ ho2.strs).mono ?_)
      rintro e w' ⟨rfl, rfl⟩
      go_wp2_with fail
      go_ret
      exact ⟨ret_bool Hf.out.symm, bthen b1 hb2⟩
    · have Hf := Lib.hid (canB_noSt (ver := ver) (ss := ss) (done := done) s0 nm)
      have e0 : (st == 0) = false := beq_eq_false_iff_ne.2 s0
      clear hok s0
      go_wp2_with fail
      go_ret
      exact ⟨ret_bool Hf.out.symm, b1⟩

set_option maxHeartbeats 2000000 in
theorem iRunDo_any (ver st : Int) (A D : Option Addr) (c d : Nat) (ss : List St) (done : List ByteArray) (nm : ByteArray) (w : World) (B B' : Nat) (h : Sts w B A c ss) (hd : Strs w B' D d done) (hnm : nm.size ≤ 9223372036854775807) (hl : ss.length ≤ 2000000) :
    Calls Try.prog 36 #[flowV ver A ss.length c, runV st D done.length d, .string nm] w (RetRun (doSt ver ss st done nm) (doDone ver ss st done nm) (canB ver ss st done nm) w) := by
  have b0 : Below w.heap.size w (((w.alloc (.cells #[.int .i64 ver, .slice A ss.length c] 25)).alloc (.cells #[.int .i64 st, .slice D done.length d] 47)).alloc (.cells #[.int .i64 0, .slice none 0 0] 47)) := (((Below.refl _ _).alloc (Nat.le_refl _) _).alloc (by simp) _).alloc (by simp; omega) _
  go_enter Try.func36, Try.ntmps36
  go_wp2_with fail
  (with_reducible refine (canDo_any ver st A D c d ss done nm _ _ _ (h.then_ b0) (hd.then_ b0) hl).mono ?_)
  rintro e w1 ⟨rfl, hb1⟩
  have b1 := bthen b0 hb1
  obtain ⟨hc, hf⟩ := bcell hb1
  have hz : w.heap.size + 2 < w1.heap.size := by have := hb1.size; simp at this; omega
  have hz1 : w.heap.size + 1 < w1.heap.size := by omega
  have hz0 : w.heap.size < w1.heap.size := by omega
  cases hcan : canB ver ss st done nm
  · have e0 := Lib.hid hcan
    have e1 := Lib.hid (doSt_no hcan)
    have e2 := Lib.hid (doDone_no hcan)
    clear hcan
    go_wp2_with fail
    refine bodyPost_ret (v := .tuple #[.agg #[.int .i64 0, .slice none 0 0], .bool false]) (by simp [results, Try.results36, go_sem, hc]) rfl ?_
    rw [e0.out, e1.out, e2.out]
    exact ⟨none, 0, rfl, OwnStrs.nil_ _ _, (b1.setCell (by show w.heap.size ≤ w.heap.size + 2; omega) _).setCell (by show w.heap.size ≤ w.heap.size + 2; omega) _⟩
  · have e0 := Lib.hid hcan
    have e1 := Lib.hid (doSt_yes hcan)
    have e2 := Lib.hid (doDone_yes hcan)
    have hlen := can_len hcan
    have hln : done.length + 1 ≤ ss.length := by simpa using hlen
    clear hcan hlen
    go_wp2_with fail
    (with_reducible refine (clone_any D d done w1 _ (hd.then_ b1) (by omega)).mono ?_)
    rintro e w2 ⟨A2, c2, rfl, ho2, hb2⟩
    go_wp2_with (at_builtin; (refine wpList_append_name _ rfl (.tmp 17) (.tmp 19) rfl w1.heap.size A2 c2 done rfl (ho2.alloc _) ⟨w2.heap.size, 0, none⟩ 1 nm rfl (cell_new1 _ _ _) hnm (by omega) (by have := hb2.size; simp; omega) ?_); intro A3 c3 w3 hap; have hb3 := (hb2.alloc hb2.size _).trans hap.low; obtain ⟨hc3, hf3⟩ := bcell hb3; have ho3 := hap.own)
    have b3 := bthen b1 hb3
    (with_reducible refine (forth_n ver A A3 c c3 (done.length + 1) ss (done ++ [nm]) _ _ _ (Lib.hid (by simp)) (h.then_ b3) ho3.strs).mono ?_)
    rintro e w4 ⟨rfl, hb4⟩
    have hb5 := bthen hb3 hb4
    have b5 := bthen b1 hb5
    have ho4 := ho3.below hb4
    clear hc3 hf3
    obtain ⟨hc3, hf3⟩ := bcell hb5
    clear hb5 hb4 hb3 hap ho3 b3
    go_wp2_with fail
    refine bodyPost_ret (v := .tuple #[.agg #[.int .i64 (forthSt ss (done ++ [nm])), .slice A3 (done.length + 1) c3], .bool true]) (by simp [results, Try.results36, go_sem, hc3, hc, hz]) rfl ?_
    rw [e0.out, e1.out, e2.out]
    refine ⟨A3, c3, by simp, ?_, (b5.setCell (by show w.heap.size ≤ w.heap.size + 2; omega) _).setCell (by show w.heap.size ≤ w.heap.size + 2; omega) _⟩
    exact ((ho4.setLow (a := ⟨w.heap.size + 2, 0, none⟩) hz _).setLow (a := ⟨w.heap.size + 2, 1, none⟩) hz _).base_ (by omega)

set_option maxHeartbeats 2000000 in
theorem iRunNext_any (ver st : Int) (A D : Option Addr) (c d : Nat) (ss : List St) (done : List ByteArray) (w : World) (B B' : Nat) (h : Sts w B A c ss) (hd : Strs w B' D d done) (hl : ss.length ≤ 2000000) :
    Calls Try.prog 35 #[flowV ver A ss.length c, runV st D done.length d] w (RetStrs (nextOut ver ss st done) w) := by
  have hd1 := hd.len
  have hd2 := hd.cap
  have b0 : Below w.heap.size w ((w.alloc (.cells #[.int .i64 ver, .slice A ss.length c] 25)).alloc (.cells #[.int .i64 st, .slice D done.length d] 47)) := ((Below.refl _ _).alloc (Nat.le_refl _) _).alloc (by simp) _
  go_enter Try.func35, Try.ntmps35
  go_wp2_with fail
  (with_reducible refine (iRunValid_any ver st A D c d ss done _ _ _ (h.then_ b0) (hd.then_ b0) hl).mono ?_)
  rintro e w1 ⟨rfl, hb1⟩
  have b1 := bthen b0 hb1
  obtain ⟨hc, hf⟩ := bcell hb1
  have hz : w.heap.size + 1 < w1.heap.size := by have := hb1.size; simp at this; omega
  have hz0 : w.heap.size < w1.heap.size := by omega
  cases hok : runOk ver ss st done
  · have e1 := Lib.hid (nextOut_no hok)
    clear hok
    go_wp2_with fail
    go_ret
    rw [e1.out]
    exact ⟨none, 0, rfl, OwnStrs.nil_ _ _, b1⟩
  · by_cases s0 : st = 0
    · subst s0
      have e1 := Lib.hid (nextOut_zero hok)
      clear hok
      go_wp2_with fail
      (with_reducible refine (ready_any ver A D c d ss done w1 _ _ (h.then_ b1) (hd.then_ b1) hl).mono ?_)
      rintro e w2 ⟨A2, c2, rfl, ho2, hb2⟩
      go_wp2_with fail
      go_ret
      rw [e1.out]
      exact ⟨A2, c2, rfl, ho2.base_ (by omega), bthen b1 hb2⟩
    · by_cases s1 : st = 1
      · subst s1
        have e1 := Lib.hid (nextOut_one hok)
        have hp := back_pos hok
        have hg := Lib.hid (getLastD_eq hp)
        clear hok
        obtain ⟨ad, rfl, _, hcell⟩ := (hd.then_ b1).at_ (k := done.length - 1) (by omega)
        have hj0 : (0 : Int) < done.length := by omega
        have hj1 : (0 : Int) ≤ (done.length : Int) - 1 := by omega
        have hj2 : (1 : Int) ≤ done.length := by omega
        have hj3 : (done.length : Int) - 1 < done.length := by omega
        have hj4 : IntKind.i64.wrap ((done.length : Int) - 1) = (done.length : Int) - 1 := IntWalk.i64_in _ (by omega)
        have hj5 : ((done.length : Int) - 1).toNat = done.length - 1 := by omega
        go_wp2_with fail
        go_ret
        rw [e1.out, hg.out]
        have hx : ∀ x ∈ [done[done.length - 1]'(by omega)], x.size ≤ 9223372036854775807 := by
          intro x hx
          simp at hx
          subst hx
          exact hd.lens _ _
        exact ⟨some ⟨w1.heap.size, 0, none⟩, 1, rfl, ⟨World.ownsRow_lit w1 #[.string (done[done.length - 1]'(by omega))] _ (by omega) (by show 1 ≤ maxLen; decide) rfl, hx⟩, b1.alloc b1.size _⟩
      · have e1 := Lib.hid (nextOut_end hok s0 s1)
        have n0 : (st == 0) = false := beq_eq_false_iff_ne.2 s0
        have n1 : (st == 1) = false := beq_eq_false_iff_ne.2 s1
        clear hok s0 s1
        go_wp2_with fail
        go_ret
        rw [e1.out]
        exact ⟨none, 0, rfl, OwnStrs.nil_ _ _, b1⟩

theorem cell_stR {w : World} {a b : Addr} {u v : Value} (hne : a ≠ b) (h : w.cell? b = some u) : (w.setCell a v).cell? b = some u := (World.cell?_setCell_other w a b v hne).trans h

/-- Three boxes of two cells, one behind the other. -/
theorem three_boxes (w : World) (x y p q r s : Value) (t1 t2 t3 : TypeId) :
    Cell2 (((w.alloc (.cells #[x, y] t1)).alloc (.cells #[p, q] t2)).alloc (.cells #[r, s] t3)) w.heap.size x y ∧
    Cell2 (((w.alloc (.cells #[x, y] t1)).alloc (.cells #[p, q] t2)).alloc (.cells #[r, s] t3)) (w.heap.size + 1) p q ∧
    Cell2 (((w.alloc (.cells #[x, y] t1)).alloc (.cells #[p, q] t2)).alloc (.cells #[r, s] t3)) (w.heap.size + 2) r s ∧
    ∀ i, (((w.alloc (.cells #[x, y] t1)).alloc (.cells #[p, q] t2)).alloc (.cells #[r, s] t3)).frozen? ⟨w.heap.size + 2, i, none⟩ = false := by
  have e2 : (w.alloc (.cells #[x, y] t1)).heap.size = w.heap.size + 1 := by simp
  have e3 : ((w.alloc (.cells #[x, y] t1)).alloc (.cells #[p, q] t2)).heap.size = w.heap.size + 2 := by simp
  have c2 := (Cell2.new (w.alloc (.cells #[x, y] t1)) p q t2).alloc (.cells #[r, s] t3)
  have c3 := Cell2.new ((w.alloc (.cells #[x, y] t1)).alloc (.cells #[p, q] t2)) r s t3
  have c4 := heap_alloc_new ((w.alloc (.cells #[x, y] t1)).alloc (.cells #[p, q] t2)) (.cells #[r, s] t3)
  rw [e2] at c2
  rw [e3] at c3 c4
  refine ⟨((Cell2.new w x y t1).alloc _).alloc _, c2, c3, fun i => ?_⟩
  unfold World.frozen?
  simp only [c4]
  rfl

end Go.Proofs.Ytcammncomeiciaa
