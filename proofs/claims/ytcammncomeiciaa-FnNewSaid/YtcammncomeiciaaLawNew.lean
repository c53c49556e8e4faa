/- FnNew returns true for every code. No condition. -/
import Derived.Test.YtcammncomeiciaaArgs
import Derived.Test.YtcammncomeiciaaRunLaws
import Derived.Test.YtcammncomeiciaaRunFns
import Derived.Test.YtcammncomeiciaaFlowFns
import Derived.Test.YtcammncomeiciaaTexts
import Derived.Test.YtcammncomeiciaaRunTexts
import Derived.Test.YtcammncomeiciaaDrawFlows
namespace Go.Proofs.Ytcammncomeiciaa
set_option linter.unusedVariables false
open Go.ChangeShapes Go.WideShapes Go.ChangeAt Go.RowKit

set_option maxHeartbeats 8000000 in
theorem new_law (W : World) (v : Value) (h : IsCode W v) : Calls Try.prog 10 #[v] W fun e W' => e = .returned (.bool true) ∧ Below W.heap.size W W' := by
  obtain ⟨A, c, zs, rfl, hz⟩ := h
  have hl := hz.len
  have hc := hz.cap
  by_cases h20 : 1048576 < zs.length
  · go_enter Try.func10, Try.ntmps10
    go_wp2
    go_ret
    exact ⟨rfl, Below.refl _ _⟩
  go_enter Try.func10, Try.ntmps10
  go_wp2_with fail
  (with_reducible refine (drawRunNew_any A c zs W hz).mono ?_)
  rintro e w1 ⟨ver, SA, sc, ss, rfl, hst, h1, h6, hsm, b_1⟩
  clear hsm
  have st_1 := hst
  clear hst
  have hss : ss.length ≤ 2000000 := by omega
  go_wp2_with fail
  (with_reducible refine (iRunNew_any ver SA sc ss _ _ (st_1.alloc2 _)).mono ?_)
  rintro e w2 ⟨A2, c2, rfl, ho2, hr2⟩
  have hb2 : Below w1.heap.size w1 w2 := bthen ((Below.refl _ _).alloc (Nat.le_refl _) _) hr2
  have st_2 := st_1.then_ hb2
  have qf_2 := (Cell2.new w1 (.int .i64 ver) (.slice SA ss.length sc) 25).then_ hr2
  have b_2 := bthen b_1 hb2
  have z_2 := hb2.size
  clear st_1 b_1 hr2 hb2
  have o_2 := ho2.strs
  clear ho2
  obtain ⟨pf20, pf21⟩ := (qf_2.alloc (.cells #[.int .i64 0, .slice A2 noNames.length c2] 47))
  go_wp2_with fail
  (with_reducible refine (sRunNew_any ver SA sc ss _ _ (st_2.alloc2 _) (by omega)).mono ?_)
  rintro e w3 ⟨A3, c3, rfl, ho3, hr3⟩
  have hb3 : Below w2.heap.size w2 w3 := bthen ((Below.refl _ _).alloc (Nat.le_refl _) _) hr3
  have st_3 := st_2.then_ hb3
  have o_3 := o_2.then_ hb3
  have qf_3 := qf_2.then_ hb3
  have qo_3 := (Cell2.new w2 (.int .i64 0) (.slice A2 noNames.length c2) 47).then_ hr3
  have b_3 := bthen b_2 hb3
  have z_3 := hb3.size
  clear st_2 o_2 qf_2 b_2 pf20 pf21 hr3 hb3
  have n_3 := ho3.strs
  clear ho3
  cases hok : flowOk ver ss
  · clear hok
    obtain ⟨pf30, pf31⟩ := (qf_3.alloc (.cells #[.int .i64 0, .slice A3 noNames.length c3] 47))
    obtain ⟨po30, po31⟩ := (qo_3.alloc (.cells #[.int .i64 0, .slice A3 noNames.length c3] 47))
    go_wp2_with fail
    (with_reducible refine (sameRun_same 0 A2 A3 c2 c3 noNames _ _ _ (o_3.alloc2 _) (n_3.alloc2 _)).mono ?_)
    rintro e w4 ⟨rfl, hr4⟩
    have hb4 : Below w3.heap.size w3 w4 := bthen ((Below.refl _ _).alloc (Nat.le_refl _) _) hr4
    have st_4 := st_3.then_ hb4
    have o_4 := o_3.then_ hb4
    have n_4 := n_3.then_ hb4
    have qf_4 := qf_3.then_ hb4
    have qo_4 := qo_3.then_ hb4
    have qn_4 := (Cell2.new w3 (.int .i64 0) (.slice A3 noNames.length c3) 47).then_ hr4
    have b_4 := bthen b_3 hb4
    have z_4 := hb4.size
    clear st_3 o_3 n_3 qf_3 qo_3 b_3 pf30 pf31 po30 po31 hr4 hb4
    obtain ⟨pf40, pf41⟩ := id qf_4
    obtain ⟨po40, po41⟩ := id qo_4
    obtain ⟨pn40, pn41⟩ := id qn_4
    go_wp2_with fail
    (with_reducible refine (sameRun_same 0 A2 A3 c2 c3 noNames _ _ _ o_4 n_4).mono ?_)
    rintro e w5 ⟨rfl, hr5⟩
    have hb5 : Below w4.heap.size w4 w5 := hr5
    have st_5 := st_4.then_ hb5
    have o_5 := o_4.then_ hb5
    have n_5 := n_4.then_ hb5
    have qf_5 := qf_4.then_ hb5
    have qo_5 := qo_4.then_ hb5
    have qn_5 := qn_4.then_ hb5
    have b_5 := bthen b_4 hb5
    have z_5 := hb5.size
    clear st_4 o_4 n_4 qf_4 qo_4 qn_4 b_4 pf40 pf41 po40 po41 pn40 pn41 hr5 hb5
    go_wp2_with fail
    go_ret
    exact ⟨rfl, b_5⟩
  have Hok := Lib.hid hok
  clear hok
  obtain ⟨pf30, pf31⟩ := (qf_3.alloc (.cells #[.int .i64 0, .slice A3 noNames.length c3] 47))
  obtain ⟨po30, po31⟩ := (qo_3.alloc (.cells #[.int .i64 0, .slice A3 noNames.length c3] 47))
  go_wp2_with fail
  (with_reducible refine (sameRun_same 0 A2 A3 c2 c3 noNames _ _ _ (o_3.alloc2 _) (n_3.alloc2 _)).mono ?_)
  rintro e w4 ⟨rfl, hr4⟩
  have hb4 : Below w3.heap.size w3 w4 := bthen ((Below.refl _ _).alloc (Nat.le_refl _) _) hr4
  have st_4 := st_3.then_ hb4
  have o_4 := o_3.then_ hb4
  have n_4 := n_3.then_ hb4
  have qf_4 := qf_3.then_ hb4
  have qo_4 := qo_3.then_ hb4
  have qn_4 := (Cell2.new w3 (.int .i64 0) (.slice A3 noNames.length c3) 47).then_ hr4
  have b_4 := bthen b_3 hb4
  have z_4 := hb4.size
  clear st_3 o_3 n_3 qf_3 qo_3 b_3 pf30 pf31 po30 po31 hr4 hb4
  clear n_4
  clear qn_4
  have hrun := new_ok (ver := ver) (ss := ss) Hok.out (by omega)
  have KV := Lib.hid (fun (wx : World) (hs : Sts wx wx.heap.size SA sc ss) (ho : Strs wx wx.heap.size A2 c2 noNames) => (iRunValid_any ver 0 SA A2 sc c2 ss noNames wx _ _ hs ho (by omega)).mono fun e w' ⟨h1, h2⟩ => (⟨h1.trans (ret_bool hrun), h2⟩ : e = Ending.returned (.bool true) ∧ Below wx.heap.size wx w'))
  have hnx := (nextOut_zero hrun).trans (readyOut_yes Hok.out noNames).symm
  have KN := Lib.hid (fun (wx : World) (hs : Sts wx wx.heap.size SA sc ss) (ho : Strs wx wx.heap.size A2 c2 noNames) => show Calls Try.prog 35 #[flowV ver SA ss.length sc, runV 0 A2 noNames.length c2] wx (RetStrs (readyOut ver ss noNames) wx) from hnx ▸ iRunNext_any ver 0 SA A2 sc c2 ss noNames wx _ _ hs ho (by omega))
  have hq0 : ((noNames.length : Int) == 0) = true := rfl
  clear hrun hnx
  obtain ⟨pf40, pf41⟩ := id qf_4
  obtain ⟨po40, po41⟩ := id qo_4
  go_upto_region 8 with fail
  have rt0 := Below.refl (w4.drew).heap.size (w4.drew)
  have rs : Below w4.heap.size w4 (w4.drew) := (Below.refl _ _).drew
  have rtA : Below (w4.drew).heap.size (w4.drew) (w4.alloc (.cells #[] 9)).drew := below_drew ((Below.refl _ _).alloc (Nat.le_refl _) _)
  have rqf : Cell2 (w4.drew) (w1.heap.size) (.int .i64 ver) (.slice SA ss.length sc) := ⟨qf_4.c0, qf_4.c1⟩
  have rqo : Cell2 (w4.drew) (w2.heap.size) (.int .i64 0) (.slice A2 noNames.length c2) := ⟨qo_4.c0, qo_4.c1⟩
  have rS0 := (And.intro (rqf.then_ rt0).c0 (And.intro (rqf.then_ rt0).c1 (And.intro (rqo.then_ rt0).c0 (rqo.then_ rt0).c1)))
  have rSA := (And.intro (rqf.then_ rtA).c0 (And.intro (rqf.then_ rtA).c1 (And.intro (rqo.then_ rtA).c0 (rqo.then_ rtA).c1)))
  go_region_held3 (fun w' => w'.cell? ⟨w1.heap.size, 0, none⟩ = some (.int .i64 ver) ∧ w'.cell? ⟨w1.heap.size, 1, none⟩ = some (.slice SA ss.length sc) ∧ w'.cell? ⟨w2.heap.size, 0, none⟩ = some (.int .i64 0) ∧ w'.cell? ⟨w2.heap.size, 1, none⟩ = some (.slice A2 noNames.length c2))
    (first | exact rS4 | exact rS3 | exact rS2 | exact rS1 | exact rS0 | exact rSA | exact (And.intro (cell_alR rS4.1 _) (And.intro (cell_alR rS4.2.1 _) (And.intro (cell_alR rS4.2.2.1 _) (cell_alR rS4.2.2.2 _)))) | exact (And.intro (cell_alR rS3.1 _) (And.intro (cell_alR rS3.2.1 _) (And.intro (cell_alR rS3.2.2.1 _) (cell_alR rS3.2.2.2 _)))) | exact (And.intro (cell_alR rS2.1 _) (And.intro (cell_alR rS2.2.1 _) (And.intro (cell_alR rS2.2.2.1 _) (cell_alR rS2.2.2.2 _)))) | exact (And.intro (cell_alR rS1.1 _) (And.intro (cell_alR rS1.2.1 _) (And.intro (cell_alR rS1.2.2.1 _) (cell_alR rS1.2.2.2 _)))) | exact (And.intro (cell_alR rS0.1 _) (And.intro (cell_alR rS0.2.1 _) (And.intro (cell_alR rS0.2.2.1 _) (cell_alR rS0.2.2.2 _)))))
    (first
      | (go_at_call 34; have rtX := rtA; (with_reducible refine (KV.out _ (st_4.then_ (bthen rs rtX)).fit (o_4.then_ (bthen rs rtX)).fit).mono ?_); rintro e rw1 ⟨rfl, rh1⟩; have rt1 := bthen rtX rh1; have rS1 := (And.intro (rqf.then_ rt1).c0 (And.intro (rqf.then_ rt1).c1 (And.intro (rqo.then_ rt1).c0 (rqo.then_ rt1).c1))))
      | (go_at_call 34; (with_reducible refine (KV.out _ (st_4.then_ (bthen rs rt0)).fit (o_4.then_ (bthen rs rt0)).fit).mono ?_); rintro e rw1 ⟨rfl, rh1⟩; have rt1 := bthen rt0 rh1; have rS1 := (And.intro (rqf.then_ rt1).c0 (And.intro (rqf.then_ rt1).c1 (And.intro (rqo.then_ rt1).c0 (rqo.then_ rt1).c1))))
      | (go_at_call 35; have rtX := rt1.alloc rt1.size (.cells #[] 9); (with_reducible refine (KN.out _ (st_4.then_ (bthen rs rtX)).fit (o_4.then_ (bthen rs rtX)).fit).mono ?_); rintro e rw2 ⟨A5, c5, rfl, ho5, rh2⟩; have rt2 := bthen rtX rh2; have rfx := ho5.strs; have rkx := Below.refl rw2.heap.size rw2; have rS2 := (And.intro (rqf.then_ rt2).c0 (And.intro (rqf.then_ rt2).c1 (And.intro (rqo.then_ rt2).c0 (rqo.then_ rt2).c1))))
      | (go_at_call 35; (with_reducible refine (KN.out _ (st_4.then_ (bthen rs rt1)).fit (o_4.then_ (bthen rs rt1)).fit).mono ?_); rintro e rw2 ⟨A5, c5, rfl, ho5, rh2⟩; have rt2 := bthen rt1 rh2; have rfx := ho5.strs; have rkx := Below.refl rw2.heap.size rw2; have rS2 := (And.intro (rqf.then_ rt2).c0 (And.intro (rqf.then_ rt2).c1 (And.intro (rqo.then_ rt2).c0 (rqo.then_ rt2).c1))))
      | (go_at_call 22; have rtX := rt2.alloc rt2.size (.cells #[] 9); have rkxX := rkx.alloc rkx.size (.cells #[] 9); (with_reducible refine (iFlowReady_n ver SA _ sc 0 0 ss noNames _ _ _ (Lib.hid (show noNames.length = 0 from rfl)) (st_4.then_ (bthen rs rtX)) (strs_nil0 _ 0 _) hss).mono ?_); rintro e rw3 ⟨A6, c6, rfl, ho6, rh3⟩; have rt3 := bthen rtX rh3; have rkx := bthen rkxX rh3; have rfy := ho6.strs; have rky := Below.refl rw3.heap.size rw3; have rS3 := (And.intro (rqf.then_ rt3).c0 (And.intro (rqf.then_ rt3).c1 (And.intro (rqo.then_ rt3).c0 (rqo.then_ rt3).c1))))
      | (go_at_call 22; (with_reducible refine (iFlowReady_n ver SA _ sc 0 0 ss noNames _ _ _ (Lib.hid (show noNames.length = 0 from rfl)) (st_4.then_ (bthen rs rt2)) (strs_nil0 _ 0 _) hss).mono ?_); rintro e rw3 ⟨A6, c6, rfl, ho6, rh3⟩; have rt3 := bthen rt2 rh3; have rkx := bthen rkx rh3; have rfy := ho6.strs; have rky := Below.refl rw3.heap.size rw3; have rS3 := (And.intro (rqf.then_ rt3).c0 (And.intro (rqf.then_ rt3).c1 (And.intro (rqo.then_ rt3).c0 (rqo.then_ rt3).c1))))
      | (go_at_call 21; have rtX := rt3.alloc rt3.size (.cells #[] 9); have rkxX := rkx.alloc rkx.size (.cells #[] 9); have rkyX := rky.alloc rky.size (.cells #[] 9); (with_reducible refine (sameTexts_same A5 A6 c5 c6 (readyOut ver ss noNames) _ _ _ (rfx.then_ rkxX) (rfy.then_ rkyX)).mono ?_); rintro e rw4 ⟨rfl, rh4⟩; have rt4 := bthen rtX rh4; have rkx := bthen rkxX rh4; have rky := bthen rkyX rh4; have rS4 := (And.intro (rqf.then_ rt4).c0 (And.intro (rqf.then_ rt4).c1 (And.intro (rqo.then_ rt4).c0 (rqo.then_ rt4).c1))))
      | (go_at_call 21; (with_reducible refine (sameTexts_same A5 A6 c5 c6 (readyOut ver ss noNames) _ _ _ (rfx.then_ rkx) (rfy.then_ rky)).mono ?_); rintro e rw4 ⟨rfl, rh4⟩; have rt4 := bthen rt3 rh4; have rkx := bthen rkx rh4; have rky := bthen rky rh4; have rS4 := (And.intro (rqf.then_ rt4).c0 (And.intro (rqf.then_ rt4).c1 (And.intro (rqo.then_ rt4).c0 (rqo.then_ rt4).c1)))))
  all_goals
    go_wp2_with fail
    go_ret
    exact ⟨rfl, bthen b_4 (bthen rs rt4)⟩

set_option maxRecDepth 100000 in
theorem fnNew_lifted (os : Os) (started : os.Started) (H : Type) (enc : TypeId × Value → H) :
    ReturnsInHanded {} Try.checked os 10 .any (Rows.fnNewSpec.pre6 enc Try.prog Try.f10 Rows.fnNewRow.domain false) (Rows.fnNewSpec.post enc Try.prog Try.f10 false true false false) := by
  refine returnsInHanded_of_change (C := Try.checked) own started (by kernel_rfl) Try.func10
    (ChangeSpec.witness6 (enc := enc) (C := Try.checked) false ⟨#[], #[.slice none 0 0], []⟩ 8 (by kernel_rfl) (by kernel_rfl) (by kernel_rfl) (by kernel_rfl)) ?_
  intro W base args ds gs before hval0 hW _ _
  have hval : ∀ (j : Nat) t v, Try.f10.params[j]? = some t → args[j]? = some v → Value.okWide Try.prog W .any base t v := hval0
  obtain ⟨p, q, hA0, hV, _⟩ := id hW
  have hA : DataW.TrodAll enc Try.prog W 0 (fun _ => true) true Try.f10.params.toList args.toList ds p := hA0
  rw [Try.params10] at hA hval
  obtain ⟨v0, d0, rfl, rfl, h0⟩ := trodAll_one hA
  obtain ⟨rfl, rfl⟩ := trodVars_none hV
  refine (new_law W v0 (arg_code (hval 0 _ v0 rfl rfl) h0)).mono fun e W' ⟨he, hw⟩ => ?_
  subst he
  exact ⟨_, rfl, law_post laidOut (readable_of (by kernel_rfl)) rfl Try.underlying4 rfl rfl rfl rfl hW hw⟩

theorem fnNew_holds : Rows.FnNewSaid :=
  OpenClaim.holds_of_wide 10 Try.f10 rfl rfl rfl rfl rfl rfl rfl ⟨rfl, rfl, rfl, rfl, rfl⟩ rfl rfl rfl rfl rfl (by kernel_rfl) Try.func10 (by kernel_rfl)
    (of_decide_eq_true (by kernel_rfl)) (by unfold Func.isWrapper; rw [if_neg (of_decide_eq_false (by kernel_rfl))]; exact ⟨rfl, rfl⟩)
    (fun os started H enc _ => fnNew_lifted os started H enc)

end Go.Proofs.Ytcammncomeiciaa
