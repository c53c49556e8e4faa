/- FnEventsOf returns true for every code. No condition. -/
import Derived.Test.YtaelacpkagcffaaArgs
import Derived.Test.YtaelacpkagcffaaRunLaws
import Derived.Test.YtaelacpkagcffaaRunFns
import Derived.Test.YtaelacpkagcffaaSpecRunFns
import Derived.Test.YtaelacpkagcffaaFlowFns
import Derived.Test.YtaelacpkagcffaaTexts
import Derived.Test.YtaelacpkagcffaaRunTexts
import Derived.Test.YtaelacpkagcffaaDrawRuns
import Derived.Test.YtaelacpkagcffaaEvOf
import Derived.Test.YtaelacpkagcffaaSameEv
namespace Go.Proofs.Ytaelacpkagcffaa
set_option linter.unusedVariables false
set_option maxRecDepth 100000
open Go.ChangeShapes Go.WideShapes Go.ChangeAt Go.RowKit

set_option maxHeartbeats 8000000 in
theorem eventsOf_law (W : World) (v : Value) (h : IsCode W v) : Calls Try.prog 6 #[v] W fun e W' => e = .returned (.bool true) ∧ Below W.heap.size W W' := by
  obtain ⟨A, c, zs, rfl, hz⟩ := h
  have hl := hz.len
  have hc := hz.cap
  by_cases h20 : 1048576 < zs.length
  · go_enter Try.func6, Try.ntmps6
    go_wp2
    go_ret
    exact ⟨rfl, Below.refl _ _⟩
  go_enter Try.func6, Try.ntmps6
  go_wp2_with fail
  (with_reducible refine (drawEventsOf_any A c zs W hz).mono ?_)
  rintro e w1 ⟨ver, SA, sc, ss, st, D, d, done, rfl, hT, b_1⟩
  have hst := hT.sts
  have hdn := hT.strs
  have h1 := hT.one
  have h6 := hT.six
  have hl7 := hT.len
  have hss : ss.length ≤ 2000000 := by omega
  clear hT
  have st_1 := hst
  have dn_1 := hdn
  clear hst hdn
  go_wp2_with fail
  (with_reducible refine (iEventsOf_any ver st SA D sc d ss done _ _ _ ((st_1.alloc2 _).alloc2 _) ((dn_1.alloc2 _).alloc2 _) hss).mono ?_)
  rintro e w2 ⟨A2, c2, rfl, ho2, hr2⟩
  have hb2 : Below w1.heap.size w1 w2 := bthen (((Below.refl _ _).alloc (Nat.le_refl _) _).alloc (by simp) _) hr2
  have st_2 := st_1.then_ hb2
  have dn_2 := dn_1.then_ hb2
  have qf_2 := ((Cell2.new w1 (.int .i64 ver) (.slice SA ss.length sc) 38).alloc (.cells #[.int .i64 st, .slice D done.length d] 33)).then_ hr2
  have qr_2 : Cell2 w2 (w1.heap.size + 1) (.int .i64 st) (.slice D done.length d) := by have := (Cell2.new (w1.alloc (.cells #[.int .i64 ver, .slice SA ss.length sc] 38)) (.int .i64 st) (.slice D done.length d) 33).then_ hr2; simpa using this
  have b_2 := bthen b_1 hb2
  have z_2 := hb2.size
  clear st_1 dn_1 b_1 hr2 hb2
  have o_2 := ho2.evs
  clear ho2
  obtain ⟨pf20, pf21⟩ := id qf_2
  obtain ⟨pr20, pr21⟩ := id qr_2
  go_wp2_with fail
  (with_reducible refine (sEventsOf_any ver st SA D sc d ss done _ _ _ st_2 dn_2 hss).mono ?_)
  rintro e w3 ⟨A3, c3, rfl, ho3, hr3⟩
  have hb3 : Below w2.heap.size w2 w3 := hr3
  have st_3 := st_2.then_ hb3
  have dn_3 := dn_2.then_ hb3
  have o_3 := o_2.then_ hb3
  have qf_3 := qf_2.then_ hb3
  have qr_3 := qr_2.then_ hb3
  have b_3 := bthen b_2 hb3
  have z_3 := hb3.size
  clear st_2 dn_2 o_2 qf_2 qr_2 b_2 pf20 pf21 pr20 pr21 hr3 hb3
  have n_3 := ho3.evs
  clear ho3
  cases hok : runOk ver ss st done
  · clear hok
    obtain ⟨pf30, pf31⟩ := id qf_3
    obtain ⟨pr30, pr31⟩ := id qr_3
    go_wp2_with fail
    (with_reducible refine (sameEvents_same A2 A3 c2 c3 (evOf ver ss st done) _ _ _ o_3 n_3).mono ?_)
    rintro e w4 ⟨rfl, hr4⟩
    have hb4 : Below w3.heap.size w3 w4 := hr4
    have st_4 := st_3.then_ hb4
    have dn_4 := dn_3.then_ hb4
    have o_4 := o_3.then_ hb4
    have n_4 := n_3.then_ hb4
    have qf_4 := qf_3.then_ hb4
    have qr_4 := qr_3.then_ hb4
    have b_4 := bthen b_3 hb4
    have z_4 := hb4.size
    clear st_3 dn_3 o_3 n_3 qf_3 qr_3 b_3 pf30 pf31 pr30 pr31 hr4 hb4
    obtain ⟨pf40, pf41⟩ := id qf_4
    obtain ⟨pr40, pr41⟩ := id qr_4
    go_wp2_with fail
    (with_reducible refine (sameEvents_same A2 A3 c2 c3 (evOf ver ss st done) _ _ _ o_4 n_4).mono ?_)
    rintro e w5 ⟨rfl, hr5⟩
    have hb5 : Below w4.heap.size w4 w5 := hr5
    have st_5 := st_4.then_ hb5
    have dn_5 := dn_4.then_ hb5
    have o_5 := o_4.then_ hb5
    have n_5 := n_4.then_ hb5
    have qf_5 := qf_4.then_ hb5
    have qr_5 := qr_4.then_ hb5
    have b_5 := bthen b_4 hb5
    have z_5 := hb5.size
    clear st_4 dn_4 o_4 n_4 qf_4 qr_4 b_4 pf40 pf41 pr40 pr41 hr5 hb5
    go_wp2_with fail
    go_ret
    exact ⟨rfl, b_5⟩
  have Hok := Lib.hid hok
  clear hok
  obtain ⟨pf30, pf31⟩ := id qf_3
  obtain ⟨pr30, pr31⟩ := id qr_3
  go_wp2_with fail
  (with_reducible refine (sameEvents_same A2 A3 c2 c3 (evOf ver ss st done) _ _ _ o_3 n_3).mono ?_)
  rintro e w4 ⟨rfl, hr4⟩
  have hb4 : Below w3.heap.size w3 w4 := hr4
  have st_4 := st_3.then_ hb4
  have dn_4 := dn_3.then_ hb4
  have o_4 := o_3.then_ hb4
  have n_4 := n_3.then_ hb4
  have qf_4 := qf_3.then_ hb4
  have qr_4 := qr_3.then_ hb4
  have b_4 := bthen b_3 hb4
  have z_4 := hb4.size
  clear st_3 dn_3 o_3 n_3 qf_3 qr_3 b_3 pf30 pf31 pr30 pr31 hr4 hb4
  clear n_4
  obtain ⟨q1, q2, q3, q4⟩ := evOf_run Hok.out
  have q5 := evOf_ok Hok.out
  have KR := Lib.hid (fun (wx : World) (hs : Sts wx wx.heap.size SA sc ss) (ho : Evs wx wx.heap.size A2 c2 (evOf ver ss st done)) => show Calls Try.prog 29 #[flowV ver SA ss.length sc, .slice A2 (evOf ver ss st done).length c2] wx (RetRunN st done (evOf ver ss st done).length true wx) from by
    have hh := iEventsRun_any ver SA A2 sc c2 ss (evOf ver ss st done) wx _ _ hs ho hss
    rw [q1, q2, q3, q4] at hh
    exact hh)
  have KV := Lib.hid (fun (wx : World) (ho : Evs wx wx.heap.size A2 c2 (evOf ver ss st done)) => (iEventsValid_any A2 c2 (evOf ver ss st done) wx _ ho).mono fun e w' ⟨h1, h2⟩ => (⟨h1.trans (ret_bool q5), h2⟩ : e = Ending.returned (.bool true) ∧ Below wx.heap.size wx w'))
  clear q1 q2 q3 q4 q5
  generalize evOf ver ss st done = es at *
  obtain ⟨pf40, pf41⟩ := id qf_4
  obtain ⟨pr40, pr41⟩ := id qr_4
  go_wp2_with fail
  (with_reducible refine (KR.out _ st_4.fit o_4.fit).mono ?_)
  rintro e w5 ⟨A5, c5, rfl, ho5, hr5⟩
  have hb5 : Below w4.heap.size w4 w5 := hr5
  have st_5 := st_4.then_ hb5
  have dn_5 := dn_4.then_ hb5
  have o_5 := o_4.then_ hb5
  have qf_5 := qf_4.then_ hb5
  have qr_5 := qr_4.then_ hb5
  have b_5 := bthen b_4 hb5
  have z_5 := hb5.size
  clear st_4 dn_4 o_4 qf_4 qr_4 b_4 pf40 pf41 pr40 pr41 hr5 hb5
  have x_5 := ho5.strs
  clear ho5
  obtain ⟨pf50, pf51⟩ := (qf_5.alloc (.cells #[.int .i64 st, .slice A5 done.length c5] 33))
  obtain ⟨pr50, pr51⟩ := (qr_5.alloc (.cells #[.int .i64 st, .slice A5 done.length c5] 33))
  go_wp2_with fail
  (with_reducible refine (sameRun_same st A5 D c5 d done _ _ _ (x_5.alloc2 _) (dn_5.alloc2 _)).mono ?_)
  rintro e w6 ⟨rfl, hr6⟩
  have hb6 : Below w5.heap.size w5 w6 := bthen ((Below.refl _ _).alloc (Nat.le_refl _) _) hr6
  have st_6 := st_5.then_ hb6
  have dn_6 := dn_5.then_ hb6
  have o_6 := o_5.then_ hb6
  have x_6 := x_5.then_ hb6
  have qf_6 := qf_5.then_ hb6
  have qr_6 := qr_5.then_ hb6
  have qx_6 := (Cell2.new w5 (.int .i64 st) (.slice A5 done.length c5) 33).then_ hr6
  have b_6 := bthen b_5 hb6
  have z_6 := hb6.size
  clear st_5 dn_5 o_5 x_5 qf_5 qr_5 b_5 pf50 pf51 pr50 pr51 hr6 hb6
  obtain ⟨pf60, pf61⟩ := id qf_6
  obtain ⟨pr60, pr61⟩ := id qr_6
  obtain ⟨px60, px61⟩ := id qx_6
  go_wp2_with fail
  (with_reducible refine (KV.out _ o_6.fit).mono ?_)
  rintro e w7 ⟨rfl, hr7⟩
  have hb7 : Below w6.heap.size w6 w7 := hr7
  have st_7 := st_6.then_ hb7
  have dn_7 := dn_6.then_ hb7
  have o_7 := o_6.then_ hb7
  have x_7 := x_6.then_ hb7
  have qf_7 := qf_6.then_ hb7
  have qr_7 := qr_6.then_ hb7
  have qx_7 := qx_6.then_ hb7
  have b_7 := bthen b_6 hb7
  have z_7 := hb7.size
  clear st_6 dn_6 o_6 x_6 qf_6 qr_6 qx_6 b_6 pf60 pf61 pr60 pr61 px60 px61 hr7 hb7
  go_wp2_with fail
  go_ret
  exact ⟨rfl, b_7⟩

set_option maxRecDepth 100000 in
theorem fnEventsOf_lifted (os : Os) (started : os.Started) (H : Type) (enc : TypeId × Value → H) :
    ReturnsInHanded {} Try.checked os 6 .any (Rows.fnEventsOfSpec.pre6 enc Try.prog Try.f6 Rows.fnEventsOfRow.domain false) (Rows.fnEventsOfSpec.post enc Try.prog Try.f6 false true false false) := by
  refine returnsInHanded_of_change (C := Try.checked) own started (by kernel_rfl) Try.func6
    (ChangeSpec.witness6 (enc := enc) (C := Try.checked) false ⟨#[], #[.slice none 0 0], []⟩ 8 (by kernel_rfl) (by kernel_rfl) (by kernel_rfl) (by kernel_rfl)) ?_
  intro W base args ds gs before hval0 hW _ _
  have hval : ∀ (j : Nat) t v, Try.f6.params[j]? = some t → args[j]? = some v → Value.okWide Try.prog W .any base t v := hval0
  obtain ⟨p, q, hA0, hV, _⟩ := id hW
  have hA : DataW.TrodAll enc Try.prog W 0 (fun _ => true) true Try.f6.params.toList args.toList ds p := hA0
  rw [Try.params6] at hA hval
  obtain ⟨v0, d0, rfl, rfl, h0⟩ := trodAll_one hA
  obtain ⟨rfl, rfl⟩ := trodVars_none hV
  refine (eventsOf_law W v0 (arg_code (hval 0 _ v0 rfl rfl) h0)).mono fun e W' ⟨he, hw⟩ => ?_
  subst he
  exact ⟨_, rfl, law_post laidOut (readable_of (by kernel_rfl)) rfl Try.underlying4 rfl rfl rfl rfl hW hw⟩

theorem fnEventsOf_holds : Rows.FnEventsOfSaid :=
  OpenClaim.holds_of_wide 6 Try.f6 rfl rfl rfl rfl rfl rfl rfl ⟨rfl, rfl, rfl, rfl, rfl⟩ rfl rfl rfl rfl rfl (by kernel_rfl) Try.func6 (by kernel_rfl)
    (of_decide_eq_true (by kernel_rfl)) (by unfold Func.isWrapper; rw [if_neg (of_decide_eq_false (by kernel_rfl))]; exact ⟨rfl, rfl⟩)
    (fun os started H enc _ => fnEventsOf_lifted os started H enc)

end Go.Proofs.Ytaelacpkagcffaa
