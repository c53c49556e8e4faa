/- FnOrder returns true for every code. No condition. -/
import Derived.Test.YtcammncomeiciaaArgs
import Derived.Test.YtcammncomeiciaaFlowFns
import Derived.Test.YtcammncomeiciaaDrawFlows
import Derived.Test.YtcammncomeiciaaTexts
import Derived.Test.YtcammncomeiciaaOrderPlain
namespace Go.Proofs.Ytcammncomeiciaa
set_option linter.unusedVariables false
open Go.ChangeShapes Go.WideShapes Go.ChangeAt Go.RowKit

theorem Sts.alloc2 {w : World} {B c : Nat} {A : Option Addr} {ss : List St} (h : Sts w B A c ss) (o : Obj) : Sts (w.alloc o) w.heap.size A c ss := h.fit.alloc (Nat.le_refl _) o
theorem orderOut_len {ver : Int} {ss : List St} : (orderOut ver ss).length ≤ ss.length := by
  have := ordN_length_le ss ss.length; unfold orderOut ord; split <;> simp <;> omega

set_option maxHeartbeats 4000000 in
theorem order_law (W : World) (v : Value) (h : IsCode W v) : Calls Try.prog 6 #[v] W fun e W' => e = .returned (.bool true) ∧ Below W.heap.size W W' := by
  obtain ⟨A, c, zs, rfl, hz⟩ := h
  have hl := hz.len
  have hc := hz.cap
  by_cases h20 : 1048576 < zs.length
  · go_enter Try.func6, Try.ntmps6
    go_wp2
    go_ret
    exact ⟨rfl, Below.refl _ _⟩
  · go_enter Try.func6, Try.ntmps6
    go_wp2_with fail
    (with_reducible refine (drawFlowOrder_any A c zs W hz).mono ?_)
    rintro e w1 ⟨ver, SA, sc, ss, rfl, hst, h1, h6, hsm, b1⟩
    clear hsm
    go_wp2_with fail
    (with_reducible refine (iFlowOrder_any ver SA sc ss _ _ (hst.alloc2 _) (by omega)).mono ?_)
    rintro e w2 ⟨A2, c2, rfl, ho2, hb2⟩
    have hb2' : Below w1.heap.size w1 w2 := bthen ((Below.refl _ _).alloc (Nat.le_refl _) _) hb2
    have q2 := (Cell2.new w1 (.int .i64 ver) (.slice SA ss.length sc) 25).then_ hb2
    obtain ⟨x0, x1⟩ := id q2
    go_wp2_with fail
    (with_reducible refine (sFlowOrder_any ver SA sc ss _ _ (hst.then_ hb2') (by omega)).mono ?_)
    rintro e w3 ⟨A3, c3, rfl, ho3, hb3⟩
    go_wp2_with fail
    (with_reducible refine (sameTexts_same A2 A3 c2 c3 (orderOut ver ss) _ _ _ (ho2.strs.then_ hb3) ho3.strs).mono ?_)
    rintro e w4 ⟨rfl, hb4⟩
    have b4 := bthen (bthen (bthen b1 hb2') hb3) hb4
    have t2 := (ho2.strs.then_ hb3).then_ hb4
    have t3 := ho3.strs.then_ hb4
    have q4 := (q2.then_ hb3).then_ hb4
    have s4 := ((hst.then_ hb2').then_ hb3).then_ hb4
    clear x0 x1 q2
    cases hok : flowOk ver ss
    · have h0 : (((orderOut ver ss).length : Int) == 0) = true := by rw [orderOut_no hok]; rfl
      clear hok
      go_wp2_with fail
      (with_reducible refine (sameTexts_same A2 A3 c2 c3 (orderOut ver ss) _ _ _ t2 t3).mono ?_)
      rintro e w5 ⟨rfl, hb5⟩
      go_wp2_with fail
      go_ret
      exact ⟨rfl, bthen b4 hb5⟩
    · have hlen := (flowOk_iff.1 hok).2.2.2.2.2.2
      have Hok := Lib.hid hok
      rw [orderOut_yes hok] at t2 t3 ⊢
      clear hok
      have h0 : (((ord ss).length : Int) == 0) = false := beq_eq_false_iff_ne.2 (by omega)
      have Hlen := Lib.hid hlen
      have hl2 := t2.len
      have hc2 := t2.cap
      have hls := s4.len
      have hcs := s4.cap
      clear hlen
      go_wp2_with fail
      go_loopw [6] (fun i wr => ∃ k : Nat, k ≤ ss.length ∧ i = .int .i64 k ∧ Below w4.heap.size w4 wr) (fun i _ => ss.length - (intOf i).toNat)
      case atStart => exact ⟨0, Nat.zero_le _, rfl, Below.refl _ _⟩
      case round =>
        obtain ⟨k, hk, rfl, hb⟩ := hrel
        have q5 := q4.then_ hb
        obtain ⟨x0, x1⟩ := id q5
        by_cases hlt : k < ss.length
        · have s5 := s4.then_ hb
          have t5 := t2.then_ hb
          obtain ⟨ad, A1, c1, rfl, _, hc0, hc1, hc2', hs⟩ := s5.at_ hlt
          have hi0 : (0 : Int) ≤ k := by omega
          have hi1 : (k : Int) < ss.length := by omega
          obtain ⟨hp0, hp1, hhave⟩ := ord_before Hok.out (List.getElem_mem hlt)
          obtain ⟨q, hq⟩ : ∃ q : Nat, q = (place (ord ss) ss[k].name).toNat := ⟨_, rfl⟩
          have hqi : place (ord ss) ss[k].name = (q : Int) := by omega
          rw [← hq] at hhave hp1
          have KP := Lib.hid ((placeOf_any A2 c2 (ord ss) ss[k].name wr _ t5).mono (fun e w' ⟨he, hw⟩ => (⟨he.trans (ret_int hqi), hw⟩ : e = Ending.returned (.int .i64 (q : Int)) ∧ wr = w')))
          clear hq hqi hp0
          have hq1 : q ≤ c2 := by have := Hlen.out; omega
          have hq2 : q ≤ (ord ss).length := by have := Hlen.out; omega
          have hqn : (q : Int) ≤ c2 := by omega
          have hq0 : (0 : Int) ≤ q := by omega
          have hq3 : ¬ (q : Int) < 0 := by omega
          have KN := Lib.hid (fun n => (iNamesHave_n A2 A1 c2 c1 q ss[k].after.length ((ord ss).take q) ss[k].after (wr.drewN n) _ _ (Lib.hid (by rw [List.length_take]; omega)) (Lib.hid rfl) ((t5.take q).drewN n) (hs.drewN n)).mono
            (fun e w' ⟨he, hw⟩ => (⟨he.trans (ret_bool hhave), hw⟩ : e = Ending.returned (.bool true) ∧ wr.drewN n = w')))
          clear hhave
          go_wp2_with fail
          (with_reducible refine KP.out.mono ?_)
          rintro e w' ⟨rfl, rfl⟩
          go_wp2_with fail
          go_quiet ((go_at_call 24; exact quiet_left (KN.out _)))
          go_wp2_with fail
          go_roundw
          case rel => exact ⟨k + 1, by omega, by go_num, bdrewN hb _⟩
          case measure => simp [intOf]; omega
        · obtain rfl : k = ss.length := by omega
          have hfin : (((ord ss).length : Int) == ss.length) = true := by rw [Hlen.out]; simp
          go_wp2_with fail
          go_ret
          exact ⟨rfl, bthen b4 hb⟩

set_option maxRecDepth 100000 in
theorem fnOrder_lifted (os : Os) (started : os.Started) (H : Type) (enc : TypeId × Value → H) :
    ReturnsInHanded {} Try.checked os 6 .any (Rows.fnOrderSpec.pre6 enc Try.prog Try.f6 Rows.fnOrderRow.domain false) (Rows.fnOrderSpec.post enc Try.prog Try.f6 false true false false) := by
  refine returnsInHanded_of_change (C := Try.checked) own started (by kernel_rfl) Try.func6
    (ChangeSpec.witness6 (enc := enc) (C := Try.checked) false ⟨#[], #[.slice none 0 0], []⟩ 8 (by kernel_rfl) (by kernel_rfl) (by kernel_rfl) (by kernel_rfl)) ?_
  intro W base args ds gs before hval0 hW _ _
  have hval : ∀ (j : Nat) t v, Try.f6.params[j]? = some t → args[j]? = some v → Value.okWide Try.prog W .any base t v := hval0
  obtain ⟨p, q, hA0, hV, _⟩ := id hW
  have hA : DataW.TrodAll enc Try.prog W 0 (fun _ => true) true Try.f6.params.toList args.toList ds p := hA0
  rw [Try.params6] at hA hval
  obtain ⟨v0, d0, rfl, rfl, h0⟩ := trodAll_one hA
  obtain ⟨rfl, rfl⟩ := trodVars_none hV
  refine (order_law W v0 (arg_code (hval 0 _ v0 rfl rfl) h0)).mono fun e W' ⟨he, hw⟩ => ?_
  subst he
  exact ⟨_, rfl, law_post laidOut (readable_of (by kernel_rfl)) rfl Try.underlying4 rfl rfl rfl rfl hW hw⟩

theorem fnOrder_holds : Rows.FnOrderSaid :=
  OpenClaim.holds_of_wide 6 Try.f6 rfl rfl rfl rfl rfl rfl rfl ⟨rfl, rfl, rfl, rfl, rfl⟩ rfl rfl rfl rfl rfl (by kernel_rfl) Try.func6 (by kernel_rfl)
    (of_decide_eq_true (by kernel_rfl)) (by unfold Func.isWrapper; rw [if_neg (of_decide_eq_false (by kernel_rfl))]; exact ⟨rfl, rfl⟩)
    (fun os started H enc _ => fnOrder_lifted os started H enc)

end Go.Proofs.Ytcammncomeiciaa
