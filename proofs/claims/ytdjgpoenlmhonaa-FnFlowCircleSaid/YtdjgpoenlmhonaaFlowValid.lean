/- Contracts of FlowValid of the program. Condition: lengths as Go has them. -/
import Derived.Test.YtdjgpoenlmhonaaFlows
import Derived.Test.YtdjgpoenlmhonaaFlowValidPlain
import Derived.Deep.RegionWith
import Derived.Deep.RegionLaw
namespace Go.Proofs.Ytdjgpoenlmhonaa
set_option linter.unusedVariables false
set_option maxRecDepth 100000
open Go.RowKit

set_option maxHeartbeats 8000000 in
theorem iFlowValid_any (ver : Int) (A : Option Addr) (c : Nat) (ss : List St) (w : World) (B : Nat) (h : Sts w B A c ss) :
    Calls Try.prog 8 #[flowV ver A ss.length c] w fun e w' => e = .returned (.bool (flowOk ver ss)) ∧ Below w.heap.size w w' := by
  have h1 := h.len
  have h2 := h.cap
  have hb0 : ∀ o, Below w.heap.size w (w.alloc o) := fun o => (Below.refl _ _).alloc (Nat.le_refl _) _
  by_cases hv1 : ver < 1
  · have hf := Lib.hid (flowOk_no (ver := ver) (ss := ss) (by omega))
    go_enter Try.func8, Try.ntmps8
    go_wp2_with fail
    go_ret
    exact ⟨ret_bool hf.out.symm, hb0 _⟩
  by_cases hv2 : 99 < ver
  · have hf := Lib.hid (flowOk_no (ver := ver) (ss := ss) (by omega))
    go_enter Try.func8, Try.ntmps8
    go_wp2_with fail
    go_ret
    exact ⟨ret_bool hf.out.symm, hb0 _⟩
  by_cases hl1 : ss.length < 1
  · have hf := Lib.hid (flowOk_no (ver := ver) (ss := ss) (by omega))
    go_enter Try.func8, Try.ntmps8
    go_wp2_with fail
    go_ret
    exact ⟨ret_bool hf.out.symm, hb0 _⟩
  by_cases hl2 : 8 < ss.length
  · have hf := Lib.hid (flowOk_no (ver := ver) (ss := ss) (by omega))
    go_enter Try.func8, Try.ntmps8
    go_wp2_with fail
    go_ret
    exact ⟨ret_bool hf.out.symm, hb0 _⟩
  have ha := fun o => h.fit.alloc (Nat.le_refl _) o
  cases hasc : asc (names ss)
  · have hf := Lib.hid (flowOk_no (ver := ver) (ss := ss) (by rw [hasc]; simp))
    go_enter Try.func8, Try.ntmps8
    go_wp2_with (first
      | (go_at_call 15; (with_reducible refine (names_any _ _ _ _ _ _ (ha _) (by omega)).mono ?_); rintro e w1 ⟨A1, c1, rfl, ho1, hb1⟩)
      | (go_at_call 20; (with_reducible refine (namesAscend_any _ _ _ _ _ ho1.strs).mono ?_); rintro e w' ⟨rfl, rfl⟩; rw [hasc]))
    go_ret
    exact ⟨ret_bool hf.out.symm, bthen (hb0 _) hb1⟩
  have hbox := Cell2.new w (.int .i64 ver) (.slice A ss.length c) 25
  go_enter Try.func8, Try.ntmps8
  go_wp2_with (first
    | (go_at_call 15; (with_reducible refine (names_any _ _ _ _ _ _ (ha _) (by omega)).mono ?_); rintro e w1 ⟨A1, c1, rfl, ho1, hb1⟩; obtain ⟨x0, x1⟩ := hbox.then_ hb1)
    | (go_at_call 20; (with_reducible refine (namesAscend_any _ _ _ _ _ ho1.strs).mono ?_); rintro e w' ⟨rfl, rfl⟩; rw [hasc]))
  have hb1' : Below w.heap.size w w1 := bthen (hb0 _) hb1
  have hw1 : w.heap.size + 1 ≤ w1.heap.size := by have := hb1.size; simpa using this
  clear hb1 ho1 hbox ha
  go_loopw [34] (fun i wr => ∃ k : Nat, k ≤ ss.length ∧ i = .int .i64 k ∧ Below w.heap.size w wr ∧ Cell2 wr w.heap.size (.int .i64 ver) (.slice A ss.length c) ∧ ∀ j, (h : j < ss.length) → j < k → stepOk2 ss ss[j] = true) (fun i _ => ss.length - (intOf i).toNat)
  case atStart => exact ⟨0, Nat.zero_le _, rfl, hb1', ⟨x0, x1⟩, fun j hj h => absurd h (by omega)⟩
  case round =>
    clear x0 x1 hb1' hw1
    obtain ⟨k, hk, rfl, hb, hbox, hall0⟩ := hrel
    have hall := Lib.hid hall0
    clear hall0
    have hbl := hbox.lt
    by_cases hlt : k < ss.length
    · have hst := h.then_ hb
      obtain ⟨ad, A1, c1, rfl, _, hc0, hc1, hc2, hs⟩ := hst.at_ hlt
      have hsz := h.lens k hlt
      have hbs := hb.size
      have hb2 := hb.alloc hbs (.cells #[.string ss[k].name, .slice A1 ss[k].after.length c1, .bool ss[k].undo] 32)
      have hs2 := (hs.alloc hbs (.cells #[.string ss[k].name, .slice A1 ss[k].after.length c1, .bool ss[k].undo] 32)).drew
      have KS := Lib.hid (iStepValid_any ss[k].name A1 c1 ss[k].after ss[k].undo _ _ hs2 hsz)
      cases hok : stepOk ss[k].name ss[k].after
      · have hf := Lib.hid (flowOk_no (ver := ver) (ss := ss) (by
          rintro ⟨_, _, _, _, _, h6, _⟩
          have := h6 _ (List.getElem_mem hlt)
          unfold stepOk2 at this
          rw [hok] at this
          simp at this))
        rw [hok] at KS
        go_wp2_with fail
        refine wp_region_any (by kernel_rfl) ?_
        change wpAny _ _ _ _ _ _ _ (World.drew _)
        refine wpAny_ready (rs := [0]) (by kernel_rfl) (by simp) ?_
        refine AllReady.cons rfl (fun K hK => ?_) AllReady.nil
        go_simp
        refine hK _ _ ?_
        clear hK K
        refine wpAny_ready (rs := [1]) (by kernel_rfl) (by simp) ?_
        refine AllReady.cons rfl (fun K hK => ?_) AllReady.nil
        go_simp
        (with_reducible refine KS.out.mono ?_)
        rintro e w4 ⟨rfl, hb4⟩
        go_simp
        refine hK _ _ ?_
        clear hK K
        refine wpAny_take (i := 2) (v := ?_) rfl (by kernel_rfl) (by kernel_rfl) (by kernel_rfl) (fun _ _ _ h => h) (Or.inl ⟨by kernel_rfl, ?_⟩) ?_
        rotate_left
        · intro w; go_simp; try with_reducible rfl
        refine wpAny_take (i := 3) (v := ?_) rfl (by kernel_rfl) (by kernel_rfl) (by kernel_rfl) (fun _ _ _ h => h) (Or.inl ⟨by kernel_rfl, ?_⟩) ?_
        rotate_left
        · intro w; go_simp; try with_reducible rfl
        refine wpAny_take (i := 4) (v := undef) rfl (by kernel_rfl) (by kernel_rfl) (by kernel_rfl) (fun _ _ _ h => h) (Or.inr ⟨by kernel_rfl, rfl⟩) ?_
        refine wpAny_take (i := 5) (v := undef) rfl (by kernel_rfl) (by kernel_rfl) (by kernel_rfl) (fun _ _ _ h => h) (Or.inr ⟨by kernel_rfl, rfl⟩) ?_
        refine wpAny_take (i := 6) (v := undef) rfl (by kernel_rfl) (by kernel_rfl) (by kernel_rfl) (fun _ _ _ h => h) (Or.inr ⟨by kernel_rfl, rfl⟩) ?_
        refine wpAny_take (i := 7) (v := undef) rfl (by kernel_rfl) (by kernel_rfl) (by kernel_rfl) (fun _ _ _ h => h) (Or.inr ⟨by kernel_rfl, rfl⟩) ?_
        refine wpAny_take (i := 8) (v := undef) rfl (by kernel_rfl) (by kernel_rfl) (by kernel_rfl) (fun _ _ _ h => h) (Or.inr ⟨by kernel_rfl, rfl⟩) ?_
        refine wpAny_take (i := 9) (v := undef) rfl (by kernel_rfl) (by kernel_rfl) (by kernel_rfl) (fun _ _ _ h => h) (Or.inr ⟨by kernel_rfl, rfl⟩) ?_
        refine wpAny_take (i := 10) (v := ?_) rfl (by kernel_rfl) (by kernel_rfl) (by kernel_rfl) (fun _ _ _ h => h) (Or.inl ⟨by kernel_rfl, ?_⟩) ?_
        rotate_left
        · intro w; go_simp; try with_reducible rfl
        refine wpAny_done (by kernel_rfl) ?_ _
        go_simp
        go_wp2_with fail
        go_ret
        exact ⟨ret_bool hf.out.symm, bthen hb2 ⟨hb4.os, hb4.tape, hb4.output, hb4.size, hb4.block⟩⟩
      · rw [hok] at KS
        have hbox2 := hbox.alloc (.cells #[.string ss[k].name, .slice A1 ss[k].after.length c1, .bool ss[k].undo] 32)
        have hst2 := hst.alloc hbs (.cells #[.string ss[k].name, .slice A1 ss[k].after.length c1, .bool ss[k].undo] 32)
        have hcb := Cell3.new wr (.string ss[k].name) (.slice A1 ss[k].after.length c1) (.bool ss[k].undo) 32
        obtain ⟨y0, y1⟩ := id hbox2
        have hln : ss.length ≤ 2000000 := by omega
        cases hv : haveAll (names ss) ss[k].after
        · have hf := Lib.hid (flowOk_no (ver := ver) (ss := ss) (by
            rintro ⟨_, _, _, _, _, h6, _⟩
            have := h6 _ (List.getElem_mem hlt)
            unfold stepOk2 at this
            rw [hv] at this
            simp at this))
          go_wp2_with fail
          go_region_with (first
            | (go_at_call 21; (with_reducible refine KS.out.mono ?_); rintro e w4 ⟨rfl, hb4⟩; obtain ⟨z0, z1⟩ := hbox2.then_ (w' := w4) ⟨hb4.os, hb4.tape, hb4.output, hb4.size, hb4.block⟩; obtain ⟨v0, v1, v2⟩ := hcb.then_ (w' := w4) ⟨hb4.os, hb4.tape, hb4.output, hb4.size, hb4.block⟩; have hst4 := hst2.then_ (w' := w4) ⟨hb4.os, hb4.tape, hb4.output, hb4.size, hb4.block⟩)
            | (go_at_call 15; (with_reducible refine (names_any _ _ _ _ _ _ hst4 hln).mono ?_); rintro e w5 ⟨A5, c5, rfl, ho5, hb5⟩; obtain ⟨r0, r1, r2⟩ := (hcb.then_ (w' := w4) ⟨hb4.os, hb4.tape, hb4.output, hb4.size, hb4.block⟩).then_ hb5)
            | (go_at_call 22; (with_reducible refine (iNamesHave_any _ _ _ _ _ _ _ _ _ ho5.strs ((hs2.then_ hb4).then_ hb5)).mono ?_); rintro e w' ⟨rfl, rfl⟩; rw [hv]))
          all_goals
            have hb4' : Below w.heap.size w w4 := bthen hb2 ⟨hb4.os, hb4.tape, hb4.output, hb4.size, hb4.block⟩
            go_wp2_with fail
            go_ret
            exact ⟨ret_bool hf.out.symm, bthen hb4' hb5⟩
        · have hk2 := Lib.hid (show stepOk2 ss ss[k] = true by unfold stepOk2; rw [hok, hv]; rfl)
          go_wp2_with fail
          go_region_with (first
            | (go_at_call 21; (with_reducible refine KS.out.mono ?_); rintro e w4 ⟨rfl, hb4⟩; obtain ⟨z0, z1⟩ := hbox2.then_ (w' := w4) ⟨hb4.os, hb4.tape, hb4.output, hb4.size, hb4.block⟩; obtain ⟨v0, v1, v2⟩ := hcb.then_ (w' := w4) ⟨hb4.os, hb4.tape, hb4.output, hb4.size, hb4.block⟩; have hst4 := hst2.then_ (w' := w4) ⟨hb4.os, hb4.tape, hb4.output, hb4.size, hb4.block⟩)
            | (go_at_call 15; (with_reducible refine (names_any _ _ _ _ _ _ hst4 hln).mono ?_); rintro e w5 ⟨A5, c5, rfl, ho5, hb5⟩; obtain ⟨r0, r1, r2⟩ := (hcb.then_ (w' := w4) ⟨hb4.os, hb4.tape, hb4.output, hb4.size, hb4.block⟩).then_ hb5)
            | (go_at_call 22; (with_reducible refine (iNamesHave_any _ _ _ _ _ _ _ _ _ ho5.strs ((hs2.then_ hb4).then_ hb5)).mono ?_); rintro e w' ⟨rfl, rfl⟩; rw [hv]))
          all_goals
            have hb4' : Below w.heap.size w w4 := bthen hb2 ⟨hb4.os, hb4.tape, hb4.output, hb4.size, hb4.block⟩
            have hbox5 := (hbox2.then_ (w' := w4) ⟨hb4.os, hb4.tape, hb4.output, hb4.size, hb4.block⟩).then_ hb5
            go_wp2_with fail
            go_roundw
            case rel => exact ⟨k + 1, by omega, by go_num, bthen hb4' hb5, hbox5, fun j hj h => by
              by_cases e : j = k
              · subst e; exact hk2.out
              · exact hall.out j hj (by omega)⟩
            case measure => simp [intOf]; omega
    · have hf := Lib.hid (show flowOk ver ss = decide ((ord ss).length = ss.length) by
        have h6 : ∀ s ∈ ss, stepOk2 ss s = true := by
          intro s hs
          obtain ⟨j, hj, rfl⟩ := List.getElem_of_mem hs
          exact hall.out j hj (by omega)
        by_cases he : (ord ss).length = ss.length
        · rw [decide_eq_true he]
          exact flowOk_iff.2 ⟨by omega, by omega, by omega, by omega, hasc, h6, he⟩
        · rw [decide_eq_false he]
          exact flowOk_no (by rintro ⟨_, _, _, _, _, _, h7⟩; exact he h7))
      have hst := (h.then_ hb).drew
      obtain ⟨y0, y1⟩ := id hbox
      have hln : ss.length ≤ 2000000 := by omega
      go_wp2_with fail
      go_region_with (go_at_call 14; (with_reducible refine (order_any _ _ _ _ _ _ hst hln).mono ?_); rintro e w4 ⟨A4, c4, rfl, ho4, hb4⟩; obtain ⟨z0, z1⟩ := hbox.then_ (w' := w4) ⟨hb4.os, hb4.tape, hb4.output, hb4.size, hb4.block⟩)
      all_goals
        go_wp2_with fail
        go_ret
        refine ⟨ret_bool ?_, bthen hb ⟨hb4.os, hb4.tape, hb4.output, hb4.size, hb4.block⟩⟩
        rw [hf.out]
        by_cases he : (ord ss).length = ss.length
        · simp [he]
        · have he' : ((ord ss).length : Int) ≠ ss.length := by omega
          rw [decide_eq_false he]
          exact beq_eq_false_iff_ne.2 he'
end Go.Proofs.Ytdjgpoenlmhonaa
