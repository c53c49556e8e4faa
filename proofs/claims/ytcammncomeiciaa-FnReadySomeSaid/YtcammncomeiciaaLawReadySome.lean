/- FnReadySome returns true for all codes. No condition. -/
import Derived.Test.YtcammncomeiciaaArgs
import Derived.Test.YtcammncomeiciaaFlowFns
import Derived.Test.YtcammncomeiciaaDrawFlows
import Derived.Test.YtcammncomeiciaaTexts
import Derived.Test.YtcammncomeiciaaOrderPlain
namespace Go.Proofs.Ytcammncomeiciaa
set_option linter.unusedVariables false
open Go.ChangeShapes Go.WideShapes Go.ChangeAt Go.RowKit

theorem Sts.alloc2 {w : World} {B c : Nat} {A : Option Addr} {ss : List St} (h : Sts w B A c ss) (o : Obj) : Sts (w.alloc o) w.heap.size A c ss := h.fit.alloc (Nat.le_refl _) o

set_option maxHeartbeats 4000000 in
theorem readySome_law (W : World) (v v2 : Value) (h : IsCode W v) (h2 : IsCode W v2) : Calls Try.prog 5 #[v, v2] W fun e W' => e = .returned (.bool true) ∧ Below W.heap.size W W' := by
  obtain ⟨A, c, zs, rfl, hz⟩ := h
  obtain ⟨A', c', zs', rfl, hz'⟩ := h2
  have hl := hz.len
  have hc := hz.cap
  have hl' := hz'.len
  have hc' := hz'.cap
  by_cases h20 : 1048576 < zs.length
  · go_enter Try.func5, Try.ntmps5
    go_wp2
    go_ret
    exact ⟨rfl, Below.refl _ _⟩
  by_cases h21 : 1048576 < zs'.length
  · go_enter Try.func5, Try.ntmps5
    go_wp2
    go_ret
    exact ⟨rfl, Below.refl _ _⟩
  · go_enter Try.func5, Try.ntmps5
    go_wp2_with fail
    (with_reducible refine (drawFlowOrder_any A c zs W hz).mono ?_)
    rintro e w1 ⟨ver, SA, sc, ss, rfl, hst, h1, h6, hsm, b1⟩
    clear hsm
    go_wp2_with fail
    (with_reducible refine (iFlowOrder_any ver SA sc ss _ _ (hst.alloc2 _) (by omega)).mono ?_)
    rintro e w2 ⟨A2, c2, rfl, ho2, hb2⟩
    have hb2' : Below w1.heap.size w1 w2 := bthen ((Below.refl _ _).alloc (Nat.le_refl _) _) hb2
    have q2 := (Cell2.new w1 (.int .i64 ver) (.slice SA ss.length sc) 25).then_ hb2
    obtain ⟨x0, x1⟩ := id q2
    go_wp2_with fail
    (with_reducible refine (sFlowOrder_any ver SA sc ss _ _ (hst.then_ hb2') (by omega)).mono ?_)
    rintro e w3 ⟨A3, c3, rfl, ho3, hb3⟩
    go_wp2_with fail
    (with_reducible refine (sameTexts_same A2 A3 c2 c3 (orderOut ver ss) _ _ _ (ho2.strs.then_ hb3) ho3.strs).mono ?_)
    rintro e w4 ⟨rfl, hb4⟩
    have b4 := bthen (bthen (bthen b1 hb2') hb3) hb4
    have t2 := (ho2.strs.then_ hb3).then_ hb4
    have t3 := ho3.strs.then_ hb4
    have q4 := (q2.then_ hb3).then_ hb4
    have s4 := ((hst.then_ hb2').then_ hb3).then_ hb4
    clear x0 x1 q2
    cases hok : flowOk ver ss
    · have h0 : (((orderOut ver ss).length : Int) == 0) = true := by rw [orderOut_no hok]; rfl
      clear hok
      go_wp2_with fail
      (with_reducible refine (sameTexts_same A2 A3 c2 c3 (orderOut ver ss) _ _ _ t2 t3).mono ?_)
      rintro e w5 ⟨rfl, hb5⟩
      go_wp2_with fail
      go_ret
      exact ⟨rfl, bthen b4 hb5⟩
    · have hlen := (flowOk_iff.1 hok).2.2.2.2.2.2
      have Hok := Lib.hid hok
      rw [orderOut_yes hok] at t2 t3 ⊢
      clear hok
      have h0 : (((ord ss).length : Int) == 0) = false := beq_eq_false_iff_ne.2 (by omega)
      have Hlen := Lib.hid hlen
      have hl2 := t2.len
      have hc2 := t2.cap
      have hls := s4.len
      have hcs := s4.cap
      have ho1 : 1 ≤ (ord ss).length := by omega
      have ho6 : (ord ss).length ≤ 6 := by omega
      clear hlen
      obtain ⟨x0, x1⟩ := id q4
      go_upto_region 9 with fail
      obtain ⟨k, hk⟩ : ∃ k : Nat, k = zs'.length % ((ord ss).length + 1) := ⟨_, rfl⟩
      have hki : (zs'.length : Int) % ((ord ss).length + 1 : Int) = (k : Int) := by rw [hk]; rfl
      have hkl : k ≤ (ord ss).length := by have := Nat.mod_lt zs'.length (show (ord ss).length + 1 > 0 by omega); omega
      rw [hki]
      clear hk hki
      have hk0 : (0 : Int) ≤ k := by omega
      have hk1 : (k : Int) ≤ c2 := by omega
      have KR := Lib.hid (iFlowReady_n ver SA A2 sc c2 k ss ((ord ss).take k) w4.drew _ _ (Lib.hid (by rw [List.length_take]; omega)) s4.drew ((t2.take k).drew) (by omega))
      rw [readyOut_yes Hok.out] at KR
      have hiff : ((((ready ss ((ord ss).take k)).length : Int) == 0) == ((k : Int) == ((ord ss).length : Int))) = true := by
        by_cases he : k = (ord ss).length
        · have hr : ready ss ((ord ss).take k) = [] := by rw [List.take_of_length_le (by omega)]; exact ord_ready Hlen.out
          rw [hr, he]; simp
        · obtain ⟨r, hr⟩ := ord_head Hlen.out (k := k) (by have := Hlen.out; omega)
          rw [hr]
          have e1 : (((((ord ss)[k]'(by omega)) :: r).length : Int) == 0) = false := beq_eq_false_iff_ne.2 (by simp; omega)
          have e2 : ((k : Int) == ((ord ss).length : Int)) = false := beq_eq_false_iff_ne.2 (by omega)
          rw [e1, e2]; rfl
      have Hiff := Lib.hid hiff
      clear hiff
      go_region_held3 (fun w' => w'.cell? ⟨w1.heap.size, 0, none⟩ = some (.int .i64 ver) ∧ w'.cell? ⟨w1.heap.size, 1, none⟩ = some (.slice SA ss.length sc)) (first | assumption | go_keep)
        ((go_at_call 22; (with_reducible refine KR.out.mono ?_); rintro e w5 ⟨A5, c5, rfl, ho5, hb5⟩; have hb5' := Below.undrew hb5; have S5 := And.intro (q4.then_ hb5').c0 (q4.then_ hb5').c1))
      have b5 := bthen b4 hb5'
      go_wp2_with fail
      go_ret
      exact ⟨ret_bool Hiff.out, b5⟩

set_option maxRecDepth 100000 in
theorem fnReadySome_lifted (os : Os) (started : os.Started) (H : Type) (enc : TypeId × Value → H) :
    ReturnsInHanded {} Try.checked os 5 .any (Rows.fnReadySomeSpec.pre6 enc Try.prog Try.f5 Rows.fnReadySomeRow.domain false) (Rows.fnReadySomeSpec.post enc Try.prog Try.f5 false true false false) := by
  refine returnsInHanded_of_change (C := Try.checked) own started (by kernel_rfl) Try.func5
    (ChangeSpec.witness6 (enc := enc) (C := Try.checked) false ⟨#[], #[.slice none 0 0, .slice none 0 0], []⟩ 8 (by kernel_rfl) (by kernel_rfl) (by kernel_rfl) (by kernel_rfl)) ?_
  intro W base args ds gs before hval0 hW _ _
  have hval : ∀ (j : Nat) t v, Try.f5.params[j]? = some t → args[j]? = some v → Value.okWide Try.prog W .any base t v := hval0
  obtain ⟨p, q, hA0, hV, _⟩ := id hW
  have hA : DataW.TrodAll enc Try.prog W 0 (fun _ => true) true Try.f5.params.toList args.toList ds p := hA0
  rw [Try.params5] at hA hval
  obtain ⟨v0, v1, d0, d1, p0, p1, rfl, rfl, rfl, h0, h1⟩ := trodAll_two hA
  obtain ⟨rfl, rfl⟩ := trodVars_none hV
  refine (readySome_law W v0 v1 (arg_code (hval 0 _ v0 rfl rfl) h0) (arg_code (hval 1 _ v1 rfl rfl) h1)).mono fun e W' ⟨he, hw⟩ => ?_
  subst he
  exact ⟨_, rfl, law_post laidOut (readable_of (by kernel_rfl)) rfl Try.underlying4 rfl rfl rfl rfl hW hw⟩

theorem fnReadySome_holds : Rows.FnReadySomeSaid :=
  OpenClaim.holds_of_wide 5 Try.f5 rfl rfl rfl rfl rfl rfl rfl ⟨rfl, rfl, rfl, rfl, rfl⟩ rfl rfl rfl rfl rfl (by kernel_rfl) Try.func5 (by kernel_rfl)
    (of_decide_eq_true (by kernel_rfl)) (by unfold Func.isWrapper; rw [if_neg (of_decide_eq_false (by kernel_rfl))]; exact ⟨rfl, rfl⟩)
    (fun os started H enc _ => fnReadySome_lifted os started H enc)

end Go.Proofs.Ytcammncomeiciaa
