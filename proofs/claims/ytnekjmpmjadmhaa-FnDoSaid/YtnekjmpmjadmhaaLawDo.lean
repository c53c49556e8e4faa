/- FnDo returns true for every code. No condition. -/
import Derived.Test.YtnekjmpmjadmhaaArgs
import Derived.Test.YtnekjmpmjadmhaaRunLaws
import Derived.Test.YtnekjmpmjadmhaaRunFns
import Derived.Test.YtnekjmpmjadmhaaSpecRunFns
import Derived.Test.YtnekjmpmjadmhaaFlowFns
import Derived.Test.YtnekjmpmjadmhaaTexts
import Derived.Test.YtnekjmpmjadmhaaRunTexts
import Derived.Test.YtnekjmpmjadmhaaDrawRuns
namespace Go.Proofs.Ytnekjmpmjadmhaa
set_option linter.unusedVariables false
set_option maxRecDepth 100000
open Go.ChangeShapes Go.WideShapes Go.ChangeAt Go.RowKit

set_option maxHeartbeats 8000000 in
theorem do_law (W : World) (v : Value) (h : IsCode W v) : Calls Try.prog 6 #[v] W fun e W' => e = .returned (.bool true) ∧ Below W.heap.size W W' := by
  obtain ⟨A, c, zs, rfl, hz⟩ := h
  have hl := hz.len
  have hc := hz.cap
  by_cases h20 : 1048576 < zs.length
  · go_enter Try.func6, Try.ntmps6
    go_wp2
    go_ret
    exact ⟨rfl, Below.refl _ _⟩
  go_enter Try.func6, Try.ntmps6
  go_wp2_with fail
  (with_reducible refine (drawRunDo_any A c zs W hz).mono ?_)
  rintro e w1 ⟨ver, SA, sc, ss, st, D, d, done, nm, rfl, hnm, hT, b_1⟩
  have hst := hT.sts
  have hdn := hT.strs
  have h1 := hT.one
  have h6 := hT.six
  have hl7 := hT.len
  have hss : ss.length ≤ 2000000 := by omega
  clear hT
  have hnm9 : nm.size ≤ 9223372036854775807 := by omega
  have st_1 := hst
  have dn_1 := hdn
  clear hst hdn
  go_wp2_with fail
  (with_reducible refine (iRunDo_any ver st SA D sc d ss done nm _ _ _ ((st_1.alloc2 _).alloc2 _) ((dn_1.alloc2 _).alloc2 _) hnm9 hss).mono ?_)
  rintro e w2 ⟨A2, c2, rfl, ho2, hr2⟩
  have hb2 : Below w1.heap.size w1 w2 := bthen (((Below.refl _ _).alloc (Nat.le_refl _) _).alloc (by simp) _) hr2
  have st_2 := st_1.then_ hb2
  have dn_2 := dn_1.then_ hb2
  have qf_2 := ((Cell2.new w1 (.int .i64 ver) (.slice SA ss.length sc) 25).alloc (.cells #[.int .i64 st, .slice D done.length d] 28)).then_ hr2
  have qr_2 : Cell2 w2 (w1.heap.size + 1) (.int .i64 st) (.slice D done.length d) := by have := (Cell2.new (w1.alloc (.cells #[.int .i64 ver, .slice SA ss.length sc] 25)) (.int .i64 st) (.slice D done.length d) 28).then_ hr2; simpa using this
  have b_2 := bthen b_1 hb2
  have z_2 := hb2.size
  clear st_1 dn_1 b_1 hr2 hb2
  have o_2 := ho2.strs
  clear ho2
  obtain ⟨pf20, pf21⟩ := (qf_2.alloc (.cells #[.int .i64 (doSt ver ss st done nm), .slice A2 (doDone ver ss st done nm).length c2] 28))
  obtain ⟨pr20, pr21⟩ := (qr_2.alloc (.cells #[.int .i64 (doSt ver ss st done nm), .slice A2 (doDone ver ss st done nm).length c2] 28))
  go_wp2_with fail
  (with_reducible refine (sRunDo_any ver st SA D sc d ss done nm _ _ _ (st_2.alloc2 _) (dn_2.alloc2 _) hnm9 hss).mono ?_)
  rintro e w3 ⟨A3, c3, rfl, ho3, hr3⟩
  have hb3 : Below w2.heap.size w2 w3 := bthen ((Below.refl _ _).alloc (Nat.le_refl _) _) hr3
  have st_3 := st_2.then_ hb3
  have dn_3 := dn_2.then_ hb3
  have o_3 := o_2.then_ hb3
  have qf_3 := qf_2.then_ hb3
  have qr_3 := qr_2.then_ hb3
  have qo_3 := (Cell2.new w2 (.int .i64 (doSt ver ss st done nm)) (.slice A2 (doDone ver ss st done nm).length c2) 28).then_ hr3
  have b_3 := bthen b_2 hb3
  have z_3 := hb3.size
  clear st_2 dn_2 o_2 qf_2 qr_2 b_2 pf20 pf21 pr20 pr21 hr3 hb3
  have n_3 := ho3.strs
  clear ho3
  cases hcan : canB ver ss st done nm
  · clear hcan
    obtain ⟨pf30, pf31⟩ := (qf_3.alloc (.cells #[.int .i64 (doSt ver ss st done nm), .slice A3 (doDone ver ss st done nm).length c3] 28))
    obtain ⟨pr30, pr31⟩ := (qr_3.alloc (.cells #[.int .i64 (doSt ver ss st done nm), .slice A3 (doDone ver ss st done nm).length c3] 28))
    obtain ⟨po30, po31⟩ := (qo_3.alloc (.cells #[.int .i64 (doSt ver ss st done nm), .slice A3 (doDone ver ss st done nm).length c3] 28))
    go_wp2_with fail
    (with_reducible refine (sameRun_same (doSt ver ss st done nm) A2 A3 c2 c3 (doDone ver ss st done nm) _ _ _ (o_3.alloc2 _) (n_3.alloc2 _)).mono ?_)
    rintro e w4 ⟨rfl, hr4⟩
    have hb4 : Below w3.heap.size w3 w4 := bthen ((Below.refl _ _).alloc (Nat.le_refl _) _) hr4
    have st_4 := st_3.then_ hb4
    have dn_4 := dn_3.then_ hb4
    have o_4 := o_3.then_ hb4
    have n_4 := n_3.then_ hb4
    have qf_4 := qf_3.then_ hb4
    have qr_4 := qr_3.then_ hb4
    have qo_4 := qo_3.then_ hb4
    have qn_4 := (Cell2.new w3 (.int .i64 (doSt ver ss st done nm)) (.slice A3 (doDone ver ss st done nm).length c3) 28).then_ hr4
    have b_4 := bthen b_3 hb4
    have z_4 := hb4.size
    clear st_3 dn_3 o_3 n_3 qf_3 qr_3 qo_3 b_3 pf30 pf31 pr30 pr31 po30 po31 hr4 hb4
    obtain ⟨pf40, pf41⟩ := id qf_4
    obtain ⟨pr40, pr41⟩ := id qr_4
    obtain ⟨po40, po41⟩ := id qo_4
    obtain ⟨pn40, pn41⟩ := id qn_4
    go_wp2_with fail
    (with_reducible refine (sameRun_same (doSt ver ss st done nm) A2 A3 c2 c3 (doDone ver ss st done nm) _ _ _ o_4 n_4).mono ?_)
    rintro e w5 ⟨rfl, hr5⟩
    have hb5 : Below w4.heap.size w4 w5 := hr5
    have st_5 := st_4.then_ hb5
    have dn_5 := dn_4.then_ hb5
    have o_5 := o_4.then_ hb5
    have n_5 := n_4.then_ hb5
    have qf_5 := qf_4.then_ hb5
    have qr_5 := qr_4.then_ hb5
    have qo_5 := qo_4.then_ hb5
    have qn_5 := qn_4.then_ hb5
    have b_5 := bthen b_4 hb5
    have z_5 := hb5.size
    clear st_4 dn_4 o_4 n_4 qf_4 qr_4 qo_4 qn_4 b_4 pf40 pf41 pr40 pr41 po40 po41 pn40 pn41 hr5 hb5
    go_wp2_with fail
    go_ret
    exact ⟨rfl, b_5⟩
  have Hcan := Lib.hid hcan
  clear hcan
  obtain ⟨pf30, pf31⟩ := (qf_3.alloc (.cells #[.int .i64 (doSt ver ss st done nm), .slice A3 (doDone ver ss st done nm).length c3] 28))
  obtain ⟨pr30, pr31⟩ := (qr_3.alloc (.cells #[.int .i64 (doSt ver ss st done nm), .slice A3 (doDone ver ss st done nm).length c3] 28))
  obtain ⟨po30, po31⟩ := (qo_3.alloc (.cells #[.int .i64 (doSt ver ss st done nm), .slice A3 (doDone ver ss st done nm).length c3] 28))
  go_wp2_with fail
  (with_reducible refine (sameRun_same (doSt ver ss st done nm) A2 A3 c2 c3 (doDone ver ss st done nm) _ _ _ (o_3.alloc2 _) (n_3.alloc2 _)).mono ?_)
  rintro e w4 ⟨rfl, hr4⟩
  have hb4 : Below w3.heap.size w3 w4 := bthen ((Below.refl _ _).alloc (Nat.le_refl _) _) hr4
  have st_4 := st_3.then_ hb4
  have dn_4 := dn_3.then_ hb4
  have o_4 := o_3.then_ hb4
  have n_4 := n_3.then_ hb4
  have qf_4 := qf_3.then_ hb4
  have qr_4 := qr_3.then_ hb4
  have qo_4 := qo_3.then_ hb4
  have qn_4 := (Cell2.new w3 (.int .i64 (doSt ver ss st done nm)) (.slice A3 (doDone ver ss st done nm).length c3) 28).then_ hr4
  have b_4 := bthen b_3 hb4
  have z_4 := hb4.size
  clear st_3 dn_3 o_3 n_3 qf_3 qr_3 qo_3 b_3 pf30 pf31 pr30 pr31 po30 po31 hr4 hb4
  clear n_4
  clear qn_4
  have hlen : (doDone ver ss st done nm).length = done.length + 1 := by rw [doDone_yes Hcan.out]; simp
  have htk : (doDone ver ss st done nm).take done.length = done := by rw [doDone_yes Hcan.out]; simp
  have hlast : ∀ h : done.length < (doDone ver ss st done nm).length, (doDone ver ss st done nm)[done.length] = nm := by rw [doDone_yes Hcan.out]; simp
  have hend := do_end Hcan.out
  have hrun := do_ok Hcan.out
  have KV0 := fun (wx : World) (hs : Sts wx wx.heap.size SA sc ss) (ho : Strs wx wx.heap.size A2 c2 (doDone ver ss st done nm)) => (iRunValid_any ver (doSt ver ss st done nm) SA A2 sc c2 ss (doDone ver ss st done nm) wx _ _ hs ho hss).mono fun e w' ⟨h1, h2⟩ => (⟨h1.trans (ret_bool hrun), h2⟩ : e = Ending.returned (.bool true) ∧ Below wx.heap.size wx w')
  rw [hlen] at KV0 qo_4
  generalize doSt ver ss st done nm = ds at *
  generalize doDone ver ss st done nm = dd at *
  have KV := Lib.hid KV0
  have hdl := dn_4.len
  have hdc := dn_4.cap
  have hol := o_4.len
  have hoc := o_4.cap
  obtain ⟨ad, rfl, had, hcell⟩ := o_4.at_ (k := done.length) (by omega)
  rw [hlast (by omega)] at hcell
  have tk_4 := o_4.take done.length
  rw [htk] at tk_4
  clear hlast htk hrun KV0
  have hi0 : (0 : Int) ≤ done.length := by omega
  have hi1 : (done.length : Int) < done.length + 1 := by omega
  have hi2 : (done.length : Int) ≤ c2 := by omega
  have hw1 : IntKind.i64.wrap ((done.length : Int) + 1) = (done.length : Int) + 1 := IntWalk.i64_in _ (by omega)
  have hq0 : ((done.length : Int) + 1 == (done.length : Int) + 1) = true := beq_iff_eq.2 rfl
  have hnn : (nm.toList == nm.toList) = true := by simp
  rw [hlen] at hol
  have Hlen := Lib.hid hlen
  clear hlen
  by_cases he : done.length + 1 = ss.length
  · have e2 : (ds == 2) = true := beq_iff_eq.2 (hend.2 he)
    have q1 : ((done.length : Int) + 1 == (ss.length : Int)) = true := beq_iff_eq.2 (by omega)
    have q2 : (((done.length + 1 : Nat) : Int) == (ss.length : Int)) = true := beq_iff_eq.2 (by omega)
    have q3 : (done.length + 1 == ss.length) = true := beq_iff_eq.2 he
    clear hend he
    obtain ⟨pf40, pf41⟩ := id qf_4
    obtain ⟨pr40, pr41⟩ := id qr_4
    obtain ⟨po40, po41⟩ := id qo_4
    go_upto_region 9 with fail
    have rt0 := Below.refl (w4.drew).heap.size (w4.drew)
    have rs : Below w4.heap.size w4 (w4.drew) := (Below.refl _ _).drew
    have rqf : Cell2 (w4.drew) (w1.heap.size) (.int .i64 ver) (.slice SA ss.length sc) := ⟨qf_4.c0, qf_4.c1⟩
    have rqr : Cell2 (w4.drew) (w1.heap.size + 1) (.int .i64 st) (.slice D done.length d) := ⟨qr_4.c0, qr_4.c1⟩
    have rqo : Cell2 (w4.drew) (w2.heap.size) (.int .i64 ds) (.slice (some ad) (done.length + 1) c2) := ⟨qo_4.c0, qo_4.c1⟩
    have rx0 : (w4.drew).cell? (ad.add done.length) = some (.string nm) := hcell
    have rS0 := (And.intro (rqf.then_ rt0).c0 (And.intro (rqf.then_ rt0).c1 (And.intro (rqr.then_ rt0).c0 (And.intro (rqr.then_ rt0).c1 (And.intro (rqo.then_ rt0).c0 (And.intro (rqo.then_ rt0).c1 ((rt0.cell (World.block_lt_of_cell? _ _ rx0)).trans rx0)))))))
    go_region_held3 (fun w' => w'.cell? ⟨w1.heap.size, 0, none⟩ = some (.int .i64 ver) ∧ w'.cell? ⟨w1.heap.size, 1, none⟩ = some (.slice SA ss.length sc) ∧ w'.cell? ⟨w1.heap.size + 1, 0, none⟩ = some (.int .i64 st) ∧ w'.cell? ⟨w1.heap.size + 1, 1, none⟩ = some (.slice D done.length d) ∧ w'.cell? ⟨w2.heap.size, 0, none⟩ = some (.int .i64 ds) ∧ w'.cell? ⟨w2.heap.size, 1, none⟩ = some (.slice (some ad) (done.length + 1) c2) ∧ w'.cell? (ad.add done.length) = some (.string nm))
      (first | exact rS2 | exact rS1 | exact rS0)
      (first
        | (go_at_call 18; (with_reducible refine (KV.out _ (st_4.then_ (bthen rs rt0)).fit (o_4.then_ (bthen rs rt0)).fit).mono ?_); rintro e rw1 ⟨rfl, rh1⟩; have rt1 := bthen rt0 rh1; have rS1 := (And.intro (rqf.then_ rt1).c0 (And.intro (rqf.then_ rt1).c1 (And.intro (rqr.then_ rt1).c0 (And.intro (rqr.then_ rt1).c1 (And.intro (rqo.then_ rt1).c0 (And.intro (rqo.then_ rt1).c1 ((rt1.cell (World.block_lt_of_cell? _ _ rx0)).trans rx0))))))))
        | (go_at_call 19; (with_reducible refine (sameTexts_same (some ad) D c2 d done _ _ _ (tk_4.then_ (bthen rs rt1)) (dn_4.then_ (bthen rs rt1))).mono ?_); rintro e rw2 ⟨rfl, rh2⟩; have rt2 := bthen rt1 rh2; have rS2 := (And.intro (rqf.then_ rt2).c0 (And.intro (rqf.then_ rt2).c1 (And.intro (rqr.then_ rt2).c0 (And.intro (rqr.then_ rt2).c1 (And.intro (rqo.then_ rt2).c0 (And.intro (rqo.then_ rt2).c1 ((rt2.cell (World.block_lt_of_cell? _ _ rx0)).trans rx0)))))))))
    all_goals
      go_wp2_with fail
      go_ret
      exact ⟨rfl, bthen b_4 (bthen rs rt2)⟩
  · have e2 : (ds == 2) = false := beq_eq_false_iff_ne.2 (fun e => he (hend.1 e))
    have q1 : ((done.length : Int) + 1 == (ss.length : Int)) = false := beq_eq_false_iff_ne.2 (by omega)
    have q2 : (((done.length + 1 : Nat) : Int) == (ss.length : Int)) = false := beq_eq_false_iff_ne.2 (by omega)
    have q3 : (done.length + 1 == ss.length) = false := beq_eq_false_iff_ne.2 he
    clear hend he
    obtain ⟨pf40, pf41⟩ := id qf_4
    obtain ⟨pr40, pr41⟩ := id qr_4
    obtain ⟨po40, po41⟩ := id qo_4
    go_upto_region 9 with fail
    have rt0 := Below.refl (w4.drew).heap.size (w4.drew)
    have rs : Below w4.heap.size w4 (w4.drew) := (Below.refl _ _).drew
    have rqf : Cell2 (w4.drew) (w1.heap.size) (.int .i64 ver) (.slice SA ss.length sc) := ⟨qf_4.c0, qf_4.c1⟩
    have rqr : Cell2 (w4.drew) (w1.heap.size + 1) (.int .i64 st) (.slice D done.length d) := ⟨qr_4.c0, qr_4.c1⟩
    have rqo : Cell2 (w4.drew) (w2.heap.size) (.int .i64 ds) (.slice (some ad) (done.length + 1) c2) := ⟨qo_4.c0, qo_4.c1⟩
    have rx0 : (w4.drew).cell? (ad.add done.length) = some (.string nm) := hcell
    have rS0 := (And.intro (rqf.then_ rt0).c0 (And.intro (rqf.then_ rt0).c1 (And.intro (rqr.then_ rt0).c0 (And.intro (rqr.then_ rt0).c1 (And.intro (rqo.then_ rt0).c0 (And.intro (rqo.then_ rt0).c1 ((rt0.cell (World.block_lt_of_cell? _ _ rx0)).trans rx0)))))))
    go_region_held3 (fun w' => w'.cell? ⟨w1.heap.size, 0, none⟩ = some (.int .i64 ver) ∧ w'.cell? ⟨w1.heap.size, 1, none⟩ = some (.slice SA ss.length sc) ∧ w'.cell? ⟨w1.heap.size + 1, 0, none⟩ = some (.int .i64 st) ∧ w'.cell? ⟨w1.heap.size + 1, 1, none⟩ = some (.slice D done.length d) ∧ w'.cell? ⟨w2.heap.size, 0, none⟩ = some (.int .i64 ds) ∧ w'.cell? ⟨w2.heap.size, 1, none⟩ = some (.slice (some ad) (done.length + 1) c2) ∧ w'.cell? (ad.add done.length) = some (.string nm))
      (first | exact rS2 | exact rS1 | exact rS0)
      (first
        | (go_at_call 18; (with_reducible refine (KV.out _ (st_4.then_ (bthen rs rt0)).fit (o_4.then_ (bthen rs rt0)).fit).mono ?_); rintro e rw1 ⟨rfl, rh1⟩; have rt1 := bthen rt0 rh1; have rS1 := (And.intro (rqf.then_ rt1).c0 (And.intro (rqf.then_ rt1).c1 (And.intro (rqr.then_ rt1).c0 (And.intro (rqr.then_ rt1).c1 (And.intro (rqo.then_ rt1).c0 (And.intro (rqo.then_ rt1).c1 ((rt1.cell (World.block_lt_of_cell? _ _ rx0)).trans rx0))))))))
        | (go_at_call 19; (with_reducible refine (sameTexts_same (some ad) D c2 d done _ _ _ (tk_4.then_ (bthen rs rt1)) (dn_4.then_ (bthen rs rt1))).mono ?_); rintro e rw2 ⟨rfl, rh2⟩; have rt2 := bthen rt1 rh2; have rS2 := (And.intro (rqf.then_ rt2).c0 (And.intro (rqf.then_ rt2).c1 (And.intro (rqr.then_ rt2).c0 (And.intro (rqr.then_ rt2).c1 (And.intro (rqo.then_ rt2).c0 (And.intro (rqo.then_ rt2).c1 ((rt2.cell (World.block_lt_of_cell? _ _ rx0)).trans rx0)))))))))
    all_goals
      go_wp2_with fail
      go_ret
      exact ⟨rfl, bthen b_4 (bthen rs rt2)⟩

set_option maxRecDepth 100000 in
theorem fnDo_lifted (os : Os) (started : os.Started) (H : Type) (enc : TypeId × Value → H) :
    ReturnsInHanded {} Try.checked os 6 .any (Rows.fnDoSpec.pre6 enc Try.prog Try.f6 Rows.fnDoRow.domain false) (Rows.fnDoSpec.post enc Try.prog Try.f6 false true false false) := by
  refine returnsInHanded_of_change (C := Try.checked) own started (by kernel_rfl) Try.func6
    (ChangeSpec.witness6 (enc := enc) (C := Try.checked) false ⟨#[], #[.slice none 0 0], []⟩ 8 (by kernel_rfl) (by kernel_rfl) (by kernel_rfl) (by kernel_rfl)) ?_
  intro W base args ds gs before hval0 hW _ _
  have hval : ∀ (j : Nat) t v, Try.f6.params[j]? = some t → args[j]? = some v → Value.okWide Try.prog W .any base t v := hval0
  obtain ⟨p, q, hA0, hV, _⟩ := id hW
  have hA : DataW.TrodAll enc Try.prog W 0 (fun _ => true) true Try.f6.params.toList args.toList ds p := hA0
  rw [Try.params6] at hA hval
  obtain ⟨v0, d0, rfl, rfl, h0⟩ := trodAll_one hA
  obtain ⟨rfl, rfl⟩ := trodVars_none hV
  refine (do_law W v0 (arg_code (hval 0 _ v0 rfl rfl) h0)).mono fun e W' ⟨he, hw⟩ => ?_
  subst he
  exact ⟨_, rfl, law_post laidOut (readable_of (by kernel_rfl)) rfl Try.underlying4 rfl rfl rfl rfl hW hw⟩

theorem fnDo_holds : Rows.FnDoSaid :=
  OpenClaim.holds_of_wide 6 Try.f6 rfl rfl rfl rfl rfl rfl rfl ⟨rfl, rfl, rfl, rfl, rfl⟩ rfl rfl rfl rfl rfl (by kernel_rfl) Try.func6 (by kernel_rfl)
    (of_decide_eq_true (by kernel_rfl)) (by unfold Func.isWrapper; rw [if_neg (of_decide_eq_false (by kernel_rfl))]; exact ⟨rfl, rfl⟩)
    (fun os started H enc _ => fnDo_lifted os started H enc)

end Go.Proofs.Ytnekjmpmjadmhaa
