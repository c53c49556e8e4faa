/- FnEvent returns true for every code. No condition. -/
import Derived.Test.YtaelacpkagcffaaArgs
import Derived.Test.YtaelacpkagcffaaRunLaws
import Derived.Test.YtaelacpkagcffaaRunFns
import Derived.Test.YtaelacpkagcffaaSpecRunFns
import Derived.Test.YtaelacpkagcffaaFlowFns
import Derived.Test.YtaelacpkagcffaaTexts
import Derived.Test.YtaelacpkagcffaaRunTexts
import Derived.Test.YtaelacpkagcffaaDrawRuns
import Derived.Test.YtaelacpkagcffaaEvPlain
import Derived.Test.YtaelacpkagcffaaDrawEvRun
namespace Go.Proofs.Ytaelacpkagcffaa
set_option linter.unusedVariables false
set_option maxRecDepth 100000
open Go.ChangeShapes Go.WideShapes Go.ChangeAt Go.RowKit

set_option maxHeartbeats 8000000 in
theorem event_law (W : World) (v : Value) (h : IsCode W v) : Calls Try.prog 7 #[v] W fun e W' => e = .returned (.bool true) ∧ Below W.heap.size W W' := by
  obtain ⟨A, c, zs, rfl, hz⟩ := h
  have hl := hz.len
  have hc := hz.cap
  by_cases h20 : 1048576 < zs.length
  · go_enter Try.func7, Try.ntmps7
    go_wp2
    go_ret
    exact ⟨rfl, Below.refl _ _⟩
  go_enter Try.func7, Try.ntmps7
  go_wp2_with fail
  (with_reducible refine (drawEventRun_any A c zs W hz).mono ?_)
  rintro e w1 ⟨ver, SA, sc, ss, st, D, d, done, kd, nm, rfl, hnm, hT, b_1⟩
  have hst := hT.sts
  have hdn := hT.strs
  have h1 := hT.one
  have h6 := hT.six
  have hl7 := hT.len
  have hss : ss.length ≤ 2000000 := by omega
  clear hT
  have hnm9 : nm.size ≤ 9223372036854775807 := by omega
  have st_1 := hst
  have dn_1 := hdn
  clear hst hdn
  go_wp2_with fail
  (with_reducible refine (iEventRun_any ver st SA D sc d ss done kd nm _ _ _ (((st_1.alloc2 _).alloc2 _).alloc2 _) (((dn_1.alloc2 _).alloc2 _).alloc2 _) hnm9 hss).mono ?_)
  rintro e w2 ⟨A2, c2, rfl, ho2, hr2⟩
  have hb2 : Below w1.heap.size w1 w2 := bthen ((((Below.refl _ _).alloc (Nat.le_refl _) _).alloc (by simp) _).alloc (by simp; omega) _) hr2
  have st_2 := st_1.then_ hb2
  have dn_2 := dn_1.then_ hb2
  have qf_2 := (((Cell2.new w1 (.int .i64 ver) (.slice SA ss.length sc) 38).alloc (.cells #[.int .i64 st, .slice D done.length d] 33)).alloc (.cells #[.int .i64 kd, .string nm] 41)).then_ hr2
  have qr_2 : Cell2 w2 (w1.heap.size + 1) (.int .i64 st) (.slice D done.length d) := by have := ((Cell2.new (w1.alloc (.cells #[.int .i64 ver, .slice SA ss.length sc] 38)) (.int .i64 st) (.slice D done.length d) 33).alloc (.cells #[.int .i64 kd, .string nm] 41)).then_ hr2; simpa using this
  have qe_2 : Cell2 w2 (w1.heap.size + 2) (.int .i64 kd) (.string nm) := by have := (Cell2.new ((w1.alloc (.cells #[.int .i64 ver, .slice SA ss.length sc] 38)).alloc (.cells #[.int .i64 st, .slice D done.length d] 33)) (.int .i64 kd) (.string nm) 41).then_ hr2; simpa using this
  have b_2 := bthen b_1 hb2
  have z_2 := hb2.size
  clear st_1 dn_1 b_1 hr2 hb2
  have o_2 := ho2.strs
  clear ho2
  obtain ⟨pf20, pf21⟩ := (qf_2.alloc (.cells #[.int .i64 (evSt ver ss st done kd nm), .slice A2 (evDone ver ss st done kd nm).length c2] 33))
  obtain ⟨pr20, pr21⟩ := (qr_2.alloc (.cells #[.int .i64 (evSt ver ss st done kd nm), .slice A2 (evDone ver ss st done kd nm).length c2] 33))
  obtain ⟨pe20, pe21⟩ := (qe_2.alloc (.cells #[.int .i64 (evSt ver ss st done kd nm), .slice A2 (evDone ver ss st done kd nm).length c2] 33))
  go_wp2_with fail
  (with_reducible refine (sEventRun_any ver st SA D sc d ss done kd nm _ _ _ (st_2.alloc2 _) (dn_2.alloc2 _) hnm9 hss).mono ?_)
  rintro e w3 ⟨A3, c3, rfl, ho3, hr3⟩
  have hb3 : Below w2.heap.size w2 w3 := bthen ((Below.refl _ _).alloc (Nat.le_refl _) _) hr3
  have st_3 := st_2.then_ hb3
  have dn_3 := dn_2.then_ hb3
  have o_3 := o_2.then_ hb3
  have qf_3 := qf_2.then_ hb3
  have qr_3 := qr_2.then_ hb3
  have qe_3 := qe_2.then_ hb3
  have qo_3 := (Cell2.new w2 (.int .i64 (evSt ver ss st done kd nm)) (.slice A2 (evDone ver ss st done kd nm).length c2) 33).then_ hr3
  have b_3 := bthen b_2 hb3
  have z_3 := hb3.size
  clear st_2 dn_2 o_2 qf_2 qr_2 qe_2 b_2 pf20 pf21 pr20 pr21 pe20 pe21 hr3 hb3
  have n_3 := ho3.strs
  clear ho3
  cases hev : evB ver ss st done kd nm
  · clear hev
    obtain ⟨pf30, pf31⟩ := (qf_3.alloc (.cells #[.int .i64 (evSt ver ss st done kd nm), .slice A3 (evDone ver ss st done kd nm).length c3] 33))
    obtain ⟨pr30, pr31⟩ := (qr_3.alloc (.cells #[.int .i64 (evSt ver ss st done kd nm), .slice A3 (evDone ver ss st done kd nm).length c3] 33))
    obtain ⟨pe30, pe31⟩ := (qe_3.alloc (.cells #[.int .i64 (evSt ver ss st done kd nm), .slice A3 (evDone ver ss st done kd nm).length c3] 33))
    obtain ⟨po30, po31⟩ := (qo_3.alloc (.cells #[.int .i64 (evSt ver ss st done kd nm), .slice A3 (evDone ver ss st done kd nm).length c3] 33))
    go_wp2_with fail
    (with_reducible refine (sameRun_same (evSt ver ss st done kd nm) A2 A3 c2 c3 (evDone ver ss st done kd nm) _ _ _ (o_3.alloc2 _) (n_3.alloc2 _)).mono ?_)
    rintro e w4 ⟨rfl, hr4⟩
    have hb4 : Below w3.heap.size w3 w4 := bthen ((Below.refl _ _).alloc (Nat.le_refl _) _) hr4
    have st_4 := st_3.then_ hb4
    have dn_4 := dn_3.then_ hb4
    have o_4 := o_3.then_ hb4
    have n_4 := n_3.then_ hb4
    have qf_4 := qf_3.then_ hb4
    have qr_4 := qr_3.then_ hb4
    have qe_4 := qe_3.then_ hb4
    have qo_4 := qo_3.then_ hb4
    have qn_4 := (Cell2.new w3 (.int .i64 (evSt ver ss st done kd nm)) (.slice A3 (evDone ver ss st done kd nm).length c3) 33).then_ hr4
    have b_4 := bthen b_3 hb4
    have z_4 := hb4.size
    clear st_3 dn_3 o_3 n_3 qf_3 qr_3 qe_3 qo_3 b_3 pf30 pf31 pr30 pr31 pe30 pe31 po30 po31 hr4 hb4
    obtain ⟨pf40, pf41⟩ := id qf_4
    obtain ⟨pr40, pr41⟩ := id qr_4
    obtain ⟨pe40, pe41⟩ := id qe_4
    obtain ⟨po40, po41⟩ := id qo_4
    obtain ⟨pn40, pn41⟩ := id qn_4
    go_wp2_with fail
    (with_reducible refine (sameRun_same (evSt ver ss st done kd nm) A2 A3 c2 c3 (evDone ver ss st done kd nm) _ _ _ o_4 n_4).mono ?_)
    rintro e w5 ⟨rfl, hr5⟩
    have hb5 : Below w4.heap.size w4 w5 := hr5
    have st_5 := st_4.then_ hb5
    have dn_5 := dn_4.then_ hb5
    have o_5 := o_4.then_ hb5
    have n_5 := n_4.then_ hb5
    have qf_5 := qf_4.then_ hb5
    have qr_5 := qr_4.then_ hb5
    have qe_5 := qe_4.then_ hb5
    have qo_5 := qo_4.then_ hb5
    have qn_5 := qn_4.then_ hb5
    have b_5 := bthen b_4 hb5
    have z_5 := hb5.size
    clear st_4 dn_4 o_4 n_4 qf_4 qr_4 qe_4 qo_4 qn_4 b_4 pf40 pf41 pr40 pr41 pe40 pe41 po40 po41 pn40 pn41 hr5 hb5
    go_wp2_with fail
    go_ret
    exact ⟨rfl, b_5⟩
  have Hev := Lib.hid hev
  clear hev
  obtain ⟨pf30, pf31⟩ := (qf_3.alloc (.cells #[.int .i64 (evSt ver ss st done kd nm), .slice A3 (evDone ver ss st done kd nm).length c3] 33))
  obtain ⟨pr30, pr31⟩ := (qr_3.alloc (.cells #[.int .i64 (evSt ver ss st done kd nm), .slice A3 (evDone ver ss st done kd nm).length c3] 33))
  obtain ⟨pe30, pe31⟩ := (qe_3.alloc (.cells #[.int .i64 (evSt ver ss st done kd nm), .slice A3 (evDone ver ss st done kd nm).length c3] 33))
  obtain ⟨po30, po31⟩ := (qo_3.alloc (.cells #[.int .i64 (evSt ver ss st done kd nm), .slice A3 (evDone ver ss st done kd nm).length c3] 33))
  go_wp2_with fail
  (with_reducible refine (sameRun_same (evSt ver ss st done kd nm) A2 A3 c2 c3 (evDone ver ss st done kd nm) _ _ _ (o_3.alloc2 _) (n_3.alloc2 _)).mono ?_)
  rintro e w4 ⟨rfl, hr4⟩
  have hb4 : Below w3.heap.size w3 w4 := bthen ((Below.refl _ _).alloc (Nat.le_refl _) _) hr4
  have st_4 := st_3.then_ hb4
  have dn_4 := dn_3.then_ hb4
  have o_4 := o_3.then_ hb4
  have n_4 := n_3.then_ hb4
  have qf_4 := qf_3.then_ hb4
  have qr_4 := qr_3.then_ hb4
  have qe_4 := qe_3.then_ hb4
  have qo_4 := qo_3.then_ hb4
  have qn_4 := (Cell2.new w3 (.int .i64 (evSt ver ss st done kd nm)) (.slice A3 (evDone ver ss st done kd nm).length c3) 33).then_ hr4
  have b_4 := bthen b_3 hb4
  have z_4 := hb4.size
  clear st_3 dn_3 o_3 n_3 qf_3 qr_3 qe_3 qo_3 b_3 pf30 pf31 pr30 pr31 pe30 pe31 po30 po31 hr4 hb4
  clear n_4
  clear qn_4
  obtain ⟨hl1, hl2, hl3⟩ := ev_len Hev.out
  have hrun := ev_ok Hev.out
  have KV := Lib.hid (fun (wx : World) (hs : Sts wx wx.heap.size SA sc ss) (ho : Strs wx wx.heap.size A2 c2 (evDone ver ss st done kd nm)) => (iRunValid_any ver (evSt ver ss st done kd nm) SA A2 sc c2 ss (evDone ver ss st done kd nm) wx _ _ hs ho hss).mono fun e w' ⟨h1, h2⟩ => (⟨h1.trans (ret_bool hrun), h2⟩ : e = Ending.returned (.bool true) ∧ Below wx.heap.size wx w'))
  have hw1 : IntKind.i64.wrap ((done.length : Int) + 1) = (done.length : Int) + 1 := IntWalk.i64_in _ (by omega)
  have hw2 : IntKind.i64.wrap ((done.length : Int) - 1) = (done.length : Int) - 1 := IntWalk.i64_in _ (by omega)
  clear hrun
  generalize evDone ver ss st done kd nm = ud at *
  generalize evSt ver ss st done kd nm = us at *
  by_cases k1 : kd = 1
  · have n1 : (kd == 1) = true := beq_iff_eq.2 k1
    have hq : ((ud.length : Int) == (done.length : Int) + 1) = true := beq_iff_eq.2 (by have := hl1 k1; omega)
    clear hl1 hl2 hl3 k1
    obtain ⟨pf40, pf41⟩ := id qf_4
    obtain ⟨pr40, pr41⟩ := id qr_4
    obtain ⟨pe40, pe41⟩ := id qe_4
    obtain ⟨po40, po41⟩ := id qo_4
    go_wp2_with fail
    (with_reducible refine (KV.out _ st_4.fit o_4.fit).mono ?_)
    rintro e w5 ⟨rfl, hr5⟩
    have hb5 : Below w4.heap.size w4 w5 := hr5
    have st_5 := st_4.then_ hb5
    have dn_5 := dn_4.then_ hb5
    have o_5 := o_4.then_ hb5
    have qf_5 := qf_4.then_ hb5
    have qr_5 := qr_4.then_ hb5
    have qe_5 := qe_4.then_ hb5
    have qo_5 := qo_4.then_ hb5
    have b_5 := bthen b_4 hb5
    have z_5 := hb5.size
    clear st_4 dn_4 o_4 qf_4 qr_4 qe_4 qo_4 b_4 pf40 pf41 pr40 pr41 pe40 pe41 po40 po41 hr5 hb5
    obtain ⟨pf50, pf51⟩ := id qf_5
    obtain ⟨pr50, pr51⟩ := id qr_5
    obtain ⟨pe50, pe51⟩ := id qe_5
    obtain ⟨po50, po51⟩ := id qo_5
    go_wp2_with fail
    go_ret
    exact ⟨rfl, b_5⟩
  have n1 : (kd == 1) = false := beq_eq_false_iff_ne.2 k1
  by_cases k2 : kd = 2
  · have n2 : (kd == 2) = true := beq_iff_eq.2 k2
    have hq : ((ud.length : Int) == (done.length : Int)) = true := beq_iff_eq.2 (by have := hl2 k2; omega)
    clear hl1 hl2 hl3 k1 k2
    obtain ⟨pf40, pf41⟩ := id qf_4
    obtain ⟨pr40, pr41⟩ := id qr_4
    obtain ⟨pe40, pe41⟩ := id qe_4
    obtain ⟨po40, po41⟩ := id qo_4
    go_wp2_with fail
    (with_reducible refine (KV.out _ st_4.fit o_4.fit).mono ?_)
    rintro e w5 ⟨rfl, hr5⟩
    have hb5 : Below w4.heap.size w4 w5 := hr5
    have st_5 := st_4.then_ hb5
    have dn_5 := dn_4.then_ hb5
    have o_5 := o_4.then_ hb5
    have qf_5 := qf_4.then_ hb5
    have qr_5 := qr_4.then_ hb5
    have qe_5 := qe_4.then_ hb5
    have qo_5 := qo_4.then_ hb5
    have b_5 := bthen b_4 hb5
    have z_5 := hb5.size
    clear st_4 dn_4 o_4 qf_4 qr_4 qe_4 qo_4 b_4 pf40 pf41 pr40 pr41 pe40 pe41 po40 po41 hr5 hb5
    obtain ⟨pf50, pf51⟩ := id qf_5
    obtain ⟨pr50, pr51⟩ := id qr_5
    obtain ⟨pe50, pe51⟩ := id qe_5
    obtain ⟨po50, po51⟩ := id qo_5
    go_wp2_with fail
    go_ret
    exact ⟨rfl, b_5⟩
  have n2 : (kd == 2) = false := beq_eq_false_iff_ne.2 k2
  have hq : ((ud.length : Int) == (done.length : Int) - 1) = true := beq_iff_eq.2 (by have := hl3 k1 k2; omega)
  clear hl1 hl2 hl3 k1 k2
  obtain ⟨pf40, pf41⟩ := id qf_4
  obtain ⟨pr40, pr41⟩ := id qr_4
  obtain ⟨pe40, pe41⟩ := id qe_4
  obtain ⟨po40, po41⟩ := id qo_4
  go_wp2_with fail
  (with_reducible refine (KV.out _ st_4.fit o_4.fit).mono ?_)
  rintro e w5 ⟨rfl, hr5⟩
  have hb5 : Below w4.heap.size w4 w5 := hr5
  have st_5 := st_4.then_ hb5
  have dn_5 := dn_4.then_ hb5
  have o_5 := o_4.then_ hb5
  have qf_5 := qf_4.then_ hb5
  have qr_5 := qr_4.then_ hb5
  have qe_5 := qe_4.then_ hb5
  have qo_5 := qo_4.then_ hb5
  have b_5 := bthen b_4 hb5
  have z_5 := hb5.size
  clear st_4 dn_4 o_4 qf_4 qr_4 qe_4 qo_4 b_4 pf40 pf41 pr40 pr41 pe40 pe41 po40 po41 hr5 hb5
  obtain ⟨pf50, pf51⟩ := id qf_5
  obtain ⟨pr50, pr51⟩ := id qr_5
  obtain ⟨pe50, pe51⟩ := id qe_5
  obtain ⟨po50, po51⟩ := id qo_5
  go_wp2_with fail
  go_ret
  exact ⟨rfl, b_5⟩

set_option maxRecDepth 100000 in
theorem fnEvent_lifted (os : Os) (started : os.Started) (H : Type) (enc : TypeId × Value → H) :
    ReturnsInHanded {} Try.checked os 7 .any (Rows.fnEventSpec.pre6 enc Try.prog Try.f7 Rows.fnEventRow.domain false) (Rows.fnEventSpec.post enc Try.prog Try.f7 false true false false) := by
  refine returnsInHanded_of_change (C := Try.checked) own started (by kernel_rfl) Try.func7
    (ChangeSpec.witness6 (enc := enc) (C := Try.checked) false ⟨#[], #[.slice none 0 0], []⟩ 8 (by kernel_rfl) (by kernel_rfl) (by kernel_rfl) (by kernel_rfl)) ?_
  intro W base args ds gs before hval0 hW _ _
  have hval : ∀ (j : Nat) t v, Try.f7.params[j]? = some t → args[j]? = some v → Value.okWide Try.prog W .any base t v := hval0
  obtain ⟨p, q, hA0, hV, _⟩ := id hW
  have hA : DataW.TrodAll enc Try.prog W 0 (fun _ => true) true Try.f7.params.toList args.toList ds p := hA0
  rw [Try.params7] at hA hval
  obtain ⟨v0, d0, rfl, rfl, h0⟩ := trodAll_one hA
  obtain ⟨rfl, rfl⟩ := trodVars_none hV
  refine (event_law W v0 (arg_code (hval 0 _ v0 rfl rfl) h0)).mono fun e W' ⟨he, hw⟩ => ?_
  subst he
  exact ⟨_, rfl, law_post laidOut (readable_of (by kernel_rfl)) rfl Try.underlying4 rfl rfl rfl rfl hW hw⟩

theorem fnEvent_holds : Rows.FnEventSaid :=
  OpenClaim.holds_of_wide 7 Try.f7 rfl rfl rfl rfl rfl rfl rfl ⟨rfl, rfl, rfl, rfl, rfl⟩ rfl rfl rfl rfl rfl (by kernel_rfl) Try.func7 (by kernel_rfl)
    (of_decide_eq_true (by kernel_rfl)) (by unfold Func.isWrapper; rw [if_neg (of_decide_eq_false (by kernel_rfl))]; exact ⟨rfl, rfl⟩)
    (fun os started H enc _ => fnEvent_lifted os started H enc)

end Go.Proofs.Ytaelacpkagcffaa
