/- FnOrderReady returns true for all codes. No condition. -/
import Derived.Test.YtcammncomeiciaaArgs
import Derived.Test.YtcammncomeiciaaFlowFns
import Derived.Test.YtcammncomeiciaaDrawFlows
import Derived.Test.YtcammncomeiciaaTexts
import Derived.Test.YtcammncomeiciaaOrderPlain
namespace Go.Proofs.Ytcammncomeiciaa
set_option linter.unusedVariables false
open Go.ChangeShapes Go.WideShapes Go.ChangeAt Go.RowKit

theorem Sts.alloc2 {w : World} {B c : Nat} {A : Option Addr} {ss : List St} (h : Sts w B A c ss) (o : Obj) : Sts (w.alloc o) w.heap.size A c ss := h.fit.alloc (Nat.le_refl _) o

set_option maxHeartbeats 4000000 in
theorem orderReady_law (W : World) (v v2 : Value) (h : IsCode W v) (h2 : IsCode W v2) : Calls Try.prog 4 #[v, v2] W fun e W' => e = .returned (.bool true) ∧ Below W.heap.size W W' := by
  obtain ⟨A, c, zs, rfl, hz⟩ := h
  obtain ⟨A', c', zs', rfl, hz'⟩ := h2
  have hl := hz.len
  have hc := hz.cap
  have hl' := hz'.len
  have hc' := hz'.cap
  by_cases h20 : 1048576 < zs.length
  · go_enter Try.func4, Try.ntmps4
    go_wp2
    go_ret
    exact ⟨rfl, Below.refl _ _⟩
  by_cases h21 : 1048576 < zs'.length
  · go_enter Try.func4, Try.ntmps4
    go_wp2
    go_ret
    exact ⟨rfl, Below.refl _ _⟩
  · go_enter Try.func4, Try.ntmps4
    go_wp2_with fail
    (with_reducible refine (drawFlowOrder_any A c zs W hz).mono ?_)
    rintro e w1 ⟨ver, SA, sc, ss, rfl, hst, h1, h6, hsm, b1⟩
    clear hsm
    go_wp2_with fail
    (with_reducible refine (iFlowOrder_any ver SA sc ss _ _ (hst.alloc2 _) (by omega)).mono ?_)
    rintro e w2 ⟨A2, c2, rfl, ho2, hb2⟩
    have hb2' : Below w1.heap.size w1 w2 := bthen ((Below.refl _ _).alloc (Nat.le_refl _) _) hb2
    have q2 := (Cell2.new w1 (.int .i64 ver) (.slice SA ss.length sc) 25).then_ hb2
    obtain ⟨x0, x1⟩ := id q2
    go_wp2_with fail
    (with_reducible refine (sFlowOrder_any ver SA sc ss _ _ (hst.then_ hb2') (by omega)).mono ?_)
    rintro e w3 ⟨A3, c3, rfl, ho3, hb3⟩
    go_wp2_with fail
    (with_reducible refine (sameTexts_same A2 A3 c2 c3 (orderOut ver ss) _ _ _ (ho2.strs.then_ hb3) ho3.strs).mono ?_)
    rintro e w4 ⟨rfl, hb4⟩
    have b4 := bthen (bthen (bthen b1 hb2') hb3) hb4
    have t2 := (ho2.strs.then_ hb3).then_ hb4
    have t3 := ho3.strs.then_ hb4
    have q4 := (q2.then_ hb3).then_ hb4
    have s4 := ((hst.then_ hb2').then_ hb3).then_ hb4
    clear x0 x1 q2
    cases hok : flowOk ver ss
    · have h0 : (((orderOut ver ss).length : Int) == 0) = true := by rw [orderOut_no hok]; rfl
      clear hok
      go_wp2_with fail
      (with_reducible refine (sameTexts_same A2 A3 c2 c3 (orderOut ver ss) _ _ _ t2 t3).mono ?_)
      rintro e w5 ⟨rfl, hb5⟩
      go_wp2_with fail
      go_ret
      exact ⟨rfl, bthen b4 hb5⟩
    · have hlen := (flowOk_iff.1 hok).2.2.2.2.2.2
      have Hok := Lib.hid hok
      rw [orderOut_yes hok] at t2 t3 ⊢
      clear hok
      have h0 : (((ord ss).length : Int) == 0) = false := beq_eq_false_iff_ne.2 (by omega)
      have Hlen := Lib.hid hlen
      have hl2 := t2.len
      have hc2 := t2.cap
      have hls := s4.len
      have hcs := s4.cap
      have ho1 : 1 ≤ (ord ss).length := by omega
      have ho6 : (ord ss).length ≤ 6 := by omega
      clear hlen
      obtain ⟨x0, x1⟩ := id q4
      go_upto_region 9 with fail
      obtain ⟨k, hk⟩ : ∃ k : Nat, k = zs'.length % (ord ss).length := ⟨_, rfl⟩
      have hki : (zs'.length : Int) % ((ord ss).length : Int) = (k : Int) := by rw [hk]; rfl
      have hkl : k < (ord ss).length := by rw [hk]; exact Nat.mod_lt _ (by omega)
      rw [hki]
      clear hk hki
      obtain ⟨r, hr⟩ := ord_head Hlen.out (k := k) (by have := Hlen.out; omega)
      have hk0 : (0 : Int) ≤ k := by omega
      have hk1 : (k : Int) ≤ c2 := by omega
      have hk2 : (k : Int) < (ord ss).length := by omega
      have KR := Lib.hid (iFlowReady_n ver SA A2 sc c2 k ss ((ord ss).take k) w4.drew _ _ (Lib.hid (by rw [List.length_take]; omega)) s4.drew ((t2.take k).drew) (by omega))
      rw [readyOut_yes Hok.out, hr] at KR
      obtain ⟨X, hX⟩ : ∃ X, X = (ord ss)[k] := ⟨_, rfl⟩
      rw [← hX] at KR
      have HX := Lib.hid hX
      clear hX hr
      go_region_held3 (fun w' => w'.cell? ⟨w1.heap.size, 0, none⟩ = some (.int .i64 ver) ∧ w'.cell? ⟨w1.heap.size, 1, none⟩ = some (.slice SA ss.length sc)) (first | assumption | go_keep)
        ((go_at_call 22; (with_reducible refine KR.out.mono ?_); rintro e w5 ⟨A5, c5, rfl, ho5, hb5⟩; have hb5' := Below.undrew hb5; have S5 := And.intro (q4.then_ hb5').c0 (q4.then_ hb5').c1))
      have b5 := bthen b4 hb5'
      have t5 := t2.then_ hb5'
      have u5 := ho5.strs
      have hu := u5.len
      have hu2 := u5.cap
      obtain ⟨ad, rfl, _, hc1⟩ := t5.at_ hkl
      obtain ⟨ad5, rfl, _, hc5⟩ := u5.at_ (k := 0) (by simp)
      have hadd : ad5.add 0 = ad5 := by unfold Addr.add; simp
      rw [hadd] at hc5
      rw [← HX.out] at hc1
      simp only [List.getElem_cons_zero] at hc5
      have hx1 : (X.toList == X.toList) = true := by simp
      clear x0 x1 S5 hadd
      simp only [List.length_cons] at hu
      obtain ⟨n5, hn5⟩ : ∃ n5, n5 = r.length + 1 := ⟨_, rfl⟩
      have hl5n : 0 < n5 := by omega
      have hl5 : (0 : Int) < (n5 : Int) := by omega
      have hd : decide ((0 : Int) < (n5 : Int)) = true := by simp; omega
      rw [← hn5] at hu
      rw [← hn5]
      have Hn5 := Lib.hid hn5
      clear hn5
      go_wp2_with fail
      go_quiet (fail)
      go_wp2_with fail
      go_ret
      exact ⟨rfl, bdrewN b5 _⟩

set_option maxRecDepth 100000 in
theorem fnOrderReady_lifted (os : Os) (started : os.Started) (H : Type) (enc : TypeId × Value → H) :
    ReturnsInHanded {} Try.checked os 4 .any (Rows.fnOrderReadySpec.pre6 enc Try.prog Try.f4 Rows.fnOrderReadyRow.domain false) (Rows.fnOrderReadySpec.post enc Try.prog Try.f4 false true false false) := by
  refine returnsInHanded_of_change (C := Try.checked) own started (by kernel_rfl) Try.func4
    (ChangeSpec.witness6 (enc := enc) (C := Try.checked) false ⟨#[], #[.slice none 0 0, .slice none 0 0], []⟩ 8 (by kernel_rfl) (by kernel_rfl) (by kernel_rfl) (by kernel_rfl)) ?_
  intro W base args ds gs before hval0 hW _ _
  have hval : ∀ (j : Nat) t v, Try.f4.params[j]? = some t → args[j]? = some v → Value.okWide Try.prog W .any base t v := hval0
  obtain ⟨p, q, hA0, hV, _⟩ := id hW
  have hA : DataW.TrodAll enc Try.prog W 0 (fun _ => true) true Try.f4.params.toList args.toList ds p := hA0
  rw [Try.params4] at hA hval
  obtain ⟨v0, v1, d0, d1, p0, p1, rfl, rfl, rfl, h0, h1⟩ := trodAll_two hA
  obtain ⟨rfl, rfl⟩ := trodVars_none hV
  refine (orderReady_law W v0 v1 (arg_code (hval 0 _ v0 rfl rfl) h0) (arg_code (hval 1 _ v1 rfl rfl) h1)).mono fun e W' ⟨he, hw⟩ => ?_
  subst he
  exact ⟨_, rfl, law_post laidOut (readable_of (by kernel_rfl)) rfl Try.underlying4 rfl rfl rfl rfl hW hw⟩

theorem fnOrderReady_holds : Rows.FnOrderReadySaid :=
  OpenClaim.holds_of_wide 4 Try.f4 rfl rfl rfl rfl rfl rfl rfl ⟨rfl, rfl, rfl, rfl, rfl⟩ rfl rfl rfl rfl rfl (by kernel_rfl) Try.func4 (by kernel_rfl)
    (of_decide_eq_true (by kernel_rfl)) (by unfold Func.isWrapper; rw [if_neg (of_decide_eq_false (by kernel_rfl))]; exact ⟨rfl, rfl⟩)
    (fun os started H enc _ => fnOrderReady_lifted os started H enc)

end Go.Proofs.Ytcammncomeiciaa
