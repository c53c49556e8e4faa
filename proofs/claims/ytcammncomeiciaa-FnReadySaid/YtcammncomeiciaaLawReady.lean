/- FnReady returns true for every code. No condition. -/
import Derived.Test.YtcammncomeiciaaArgs
import Derived.Test.YtcammncomeiciaaFlowFns
import Derived.Test.YtcammncomeiciaaDrawReady
import Derived.Test.YtcammncomeiciaaTexts
namespace Go.Proofs.Ytcammncomeiciaa
set_option linter.unusedVariables false
open Go.ChangeShapes Go.WideShapes Go.ChangeAt Go.RowKit

theorem Sts.alloc2 {w : World} {B c : Nat} {A : Option Addr} {ss : List St} (h : Sts w B A c ss) (o : Obj) : Sts (w.alloc o) w.heap.size A c ss := h.fit.alloc (Nat.le_refl _) o
theorem Strs.alloc2 {w : World} {B c : Nat} {A : Option Addr} {xs : List ByteArray} (h : Strs w B A c xs) (o : Obj) : Strs (w.alloc o) w.heap.size A c xs := h.fit.alloc (Nat.le_refl _) o
theorem ready_split (ss : List St) (done : List ByteArray) (k : Nat) : ready ss done = ready (ss.take k) done ++ ready (ss.drop k) done := by
  unfold ready names
  rw [← List.map_append, ← List.filter_append, List.take_append_drop]
theorem ready_at {ss : List St} {done : List ByteArray} {k : Nat} (hk : k < ss.length) (hr : isReady done ss[k] = true) :
    ∃ h : (ready (ss.take k) done).length < (ready ss done).length, (ready ss done)[(ready (ss.take k) done).length] = ss[k].name := by
  have h1 := ready_split ss done (k + 1)
  have h2 := ready_take_succ hk done
  rw [hr] at h2
  rw [h2] at h1
  simp only [if_true] at h1
  refine ⟨by rw [h1]; simp, ?_⟩
  simp only [h1]
  rw [List.getElem_append_left (by simp)]
  simp

set_option maxHeartbeats 4000000 in
theorem ready_law (W : World) (v : Value) (h : IsCode W v) : Calls Try.prog 7 #[v] W fun e W' => e = .returned (.bool true) ∧ Below W.heap.size W W' := by
  obtain ⟨A, c, zs, rfl, hz⟩ := h
  have hl := hz.len
  have hc := hz.cap
  by_cases h20 : 1048576 < zs.length
  · go_enter Try.func7, Try.ntmps7
    go_wp2
    go_ret
    exact ⟨rfl, Below.refl _ _⟩
  · go_enter Try.func7, Try.ntmps7
    go_wp2_with fail
    (with_reducible refine (drawFlowReady_any A c zs W hz).mono ?_)
    rintro e w1 ⟨ver, SA, D, sc, d, ss, done, rfl, hst, hd, h1, h6, hsm, hd6, b1⟩
    clear hsm
    go_wp2_with fail
    (with_reducible refine (iFlowReady_any ver SA D sc d ss done _ _ _ (hst.alloc2 _) (hd.alloc2 _) (by omega)).mono ?_)
    rintro e w2 ⟨A2, c2, rfl, ho2, hb2⟩
    have hb2' : Below w1.heap.size w1 w2 := bthen ((Below.refl _ _).alloc (Nat.le_refl _) _) hb2
    have q2 := (Cell2.new w1 (.int .i64 ver) (.slice SA ss.length sc) 25).then_ hb2
    obtain ⟨x0, x1⟩ := id q2
    go_wp2_with fail
    (with_reducible refine (sFlowReady_any ver SA D sc d ss done _ _ _ (hst.then_ hb2') (hd.then_ hb2') (by omega)).mono ?_)
    rintro e w3 ⟨A3, c3, rfl, ho3, hb3⟩
    have q3 := q2.then_ hb3
    clear x0 x1
    obtain ⟨x0, x1⟩ := id q3
    go_wp2_with fail
    (with_reducible refine (sameTexts_same A2 A3 c2 c3 (readyOut ver ss done) _ _ _ (ho2.strs.then_ hb3) ho3.strs).mono ?_)
    rintro e w4 ⟨rfl, hb4⟩
    have q4 := q3.then_ hb4
    clear x0 x1
    obtain ⟨x0, x1⟩ := id q4
    go_wp2_with fail
    (with_reducible refine (sFlowValid_any ver SA sc ss _ _ (((hst.then_ hb2').then_ hb3).then_ hb4) (by omega)).mono ?_)
    rintro e w5 ⟨rfl, hb5⟩
    have b5 := bthen (bthen (bthen (bthen b1 hb2') hb3) hb4) hb5
    have t2 := ((ho2.strs.then_ hb3).then_ hb4).then_ hb5
    have t3 := (ho3.strs.then_ hb4).then_ hb5
    have q5 := q4.then_ hb5
    have s5 := (((hst.then_ hb2').then_ hb3).then_ hb4).then_ hb5
    have d5 := (((hd.then_ hb2').then_ hb3).then_ hb4).then_ hb5
    clear x0 x1 q2 q3 q4
    cases hok : flowOk ver ss
    · clear hok
      go_wp2_with fail
      (with_reducible refine (sameTexts_same A2 A3 c2 c3 (readyOut ver ss done) _ _ _ t2 t3).mono ?_)
      rintro e w6 ⟨rfl, hb6⟩
      go_wp2_with fail
      go_ret
      exact ⟨rfl, bthen b5 hb6⟩
    · rw [readyOut_yes hok] at t2 t3 ⊢
      clear hok
      have hrl := ready_length ss done
      have hl2 := t2.len
      have hc2 := t2.cap
      have hls := s5.len
      have hcs := s5.cap
      have hld := d5.len
      have hcd := d5.cap
      go_wp2_with fail
      go_loopw [7, 8] (fun n i wr => ∃ k m : Nat, k ≤ ss.length ∧ i = .int .i64 k ∧ n = .int .i64 m ∧ m = (ready (ss.take k) done).length ∧ Below w5.heap.size w5 wr) (fun _ i _ => ss.length - (intOf i).toNat)
      case atStart => exact ⟨0, 0, Nat.zero_le _, rfl, rfl, rfl, Below.refl _ _⟩
      case round =>
        obtain ⟨k, m, hk, rfl, rfl, hm0, hb⟩ := hrel
        have hm := Lib.hid hm0
        clear hm0
        have q6 := q5.then_ hb
        obtain ⟨x0, x1⟩ := id q6
        by_cases hlt : k < ss.length
        · have s6 := s5.then_ hb
          have t6 := t2.then_ hb
          have d6 := d5.then_ hb
          obtain ⟨ad, A1, c1, rfl, _, hc0, hc1, hc2', hs⟩ := s6.at_ hlt
          have hi0 : (0 : Int) ≤ k := by omega
          have hi1 : (k : Int) < ss.length := by omega
          have hrs := Lib.hid (ready_take_succ hlt done)
          cases hh : has done ss[k].name
          · have hp := place_neg_of_has hh
            cases hv : haveAll done ss[k].after
            · have hr : isReady done ss[k] = false := by unfold isReady; rw [hh, hv]; rfl
              have hrs2 := Lib.hid (show (ready (ss.take (k + 1)) done).length = (ready (ss.take k) done).length by rw [hrs.out, hr]; simp)
              clear hr
              go_wp2_with (first
                | (go_at_call 23; (with_reducible refine (placeOf_any _ _ _ _ _ _ d6).mono ?_); rintro e w' ⟨rfl, rfl⟩)
                | (go_at_call 24; (with_reducible refine (iNamesHave_any _ _ _ _ _ _ _ _ _ d6 hs).mono ?_); rintro e w' ⟨rfl, rfl⟩; rw [hv]))
              go_roundw
              case rel => exact ⟨k + 1, m, by omega, by go_num, rfl, by rw [hrs2.out, hm.out], hb⟩
              case measure => simp [intOf]; omega
            · have hr : isReady done ss[k] = true := by unfold isReady; rw [hh, hv]; rfl
              obtain ⟨hml, hmx⟩ := ready_at hlt hr
              have hrs2 := Lib.hid (show (ready (ss.take (k + 1)) done).length = (ready (ss.take k) done).length + 1 by rw [hrs.out, hr]; simp)
              simp only [← hm.out] at hml hmx
              clear hr
              obtain ⟨ad2, rfl, _, hcm⟩ := t6.at_ hml
              rw [hmx] at hcm
              clear hmx
              have hj0 : (0 : Int) ≤ m := by omega
              have hj1 : (m : Int) < (ready ss done).length := by omega
              have hd1 : decide (((ready ss done).length : Int) ≤ m) = false := by simp; omega
              have hx0 : (ss[k].name.toList != ss[k].name.toList) = false := by simp
              have hx1 : (ss[k].name.toList == ss[k].name.toList) = true := by simp
              go_wp2_with (first
                | (go_at_call 23; (with_reducible refine (placeOf_any _ _ _ _ _ _ d6).mono ?_); rintro e w' ⟨rfl, rfl⟩)
                | (go_at_call 24; (with_reducible refine (iNamesHave_any _ _ _ _ _ _ _ _ _ d6 hs).mono ?_); rintro e w' ⟨rfl, rfl⟩; rw [hv]))
              go_quiet (fail)
              go_wp2_with fail
              go_roundw
              case rel => exact ⟨k + 1, m + 1, by omega, by go_num, by go_num, by rw [hrs2.out, hm.out], bdrewN hb _⟩
              case measure => simp [intOf]; omega
          · have hp := place_pos_of_has hh
            have hr : isReady done ss[k] = false := by unfold isReady; rw [hh]; rfl
            have hrs2 := Lib.hid (show (ready (ss.take (k + 1)) done).length = (ready (ss.take k) done).length by rw [hrs.out, hr]; simp)
            clear hr
            go_wp2_with (go_at_call 23; (with_reducible refine (placeOf_any _ _ _ _ _ _ d6).mono ?_); rintro e w' ⟨rfl, rfl⟩)
            go_roundw
            case rel => exact ⟨k + 1, m, by omega, by go_num, rfl, by rw [hrs2.out, hm.out], hb⟩
            case measure => simp [intOf]; omega
        · obtain rfl : k = ss.length := by omega
          have hfin : ((m : Int) == (ready ss done).length) = true := by rw [hm.out, List.take_length]; simp
          go_wp2_with fail
          go_ret
          exact ⟨rfl, bthen b5 hb⟩

set_option maxRecDepth 100000 in
theorem fnReady_lifted (os : Os) (started : os.Started) (H : Type) (enc : TypeId × Value → H) :
    ReturnsInHanded {} Try.checked os 7 .any (Rows.fnReadySpec.pre6 enc Try.prog Try.f7 Rows.fnReadyRow.domain false) (Rows.fnReadySpec.post enc Try.prog Try.f7 false true false false) := by
  refine returnsInHanded_of_change (C := Try.checked) own started (by kernel_rfl) Try.func7
    (ChangeSpec.witness6 (enc := enc) (C := Try.checked) false ⟨#[], #[.slice none 0 0], []⟩ 8 (by kernel_rfl) (by kernel_rfl) (by kernel_rfl) (by kernel_rfl)) ?_
  intro W base args ds gs before hval0 hW _ _
  have hval : ∀ (j : Nat) t v, Try.f7.params[j]? = some t → args[j]? = some v → Value.okWide Try.prog W .any base t v := hval0
  obtain ⟨p, q, hA0, hV, _⟩ := id hW
  have hA : DataW.TrodAll enc Try.prog W 0 (fun _ => true) true Try.f7.params.toList args.toList ds p := hA0
  rw [Try.params7] at hA hval
  obtain ⟨v0, d0, rfl, rfl, h0⟩ := trodAll_one hA
  obtain ⟨rfl, rfl⟩ := trodVars_none hV
  refine (ready_law W v0 (arg_code (hval 0 _ v0 rfl rfl) h0)).mono fun e W' ⟨he, hw⟩ => ?_
  subst he
  exact ⟨_, rfl, law_post laidOut (readable_of (by kernel_rfl)) rfl Try.underlying4 rfl rfl rfl rfl hW hw⟩

theorem fnReady_holds : Rows.FnReadySaid :=
  OpenClaim.holds_of_wide 7 Try.f7 rfl rfl rfl rfl rfl rfl rfl ⟨rfl, rfl, rfl, rfl, rfl⟩ rfl rfl rfl rfl rfl (by kernel_rfl) Try.func7 (by kernel_rfl)
    (of_decide_eq_true (by kernel_rfl)) (by unfold Func.isWrapper; rw [if_neg (of_decide_eq_false (by kernel_rfl))]; exact ⟨rfl, rfl⟩)
    (fun os started H enc _ => fnReady_lifted os started H enc)

end Go.Proofs.Ytcammncomeiciaa
