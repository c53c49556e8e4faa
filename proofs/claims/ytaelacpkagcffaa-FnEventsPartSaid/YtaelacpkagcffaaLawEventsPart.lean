/- FnEventsPart returns true for every code. No condition. -/
import Derived.Test.YtaelacpkagcffaaArgs
import Derived.Test.YtaelacpkagcffaaRunLaws
import Derived.Test.YtaelacpkagcffaaRunFns
import Derived.Test.YtaelacpkagcffaaSpecRunFns
import Derived.Test.YtaelacpkagcffaaFlowFns
import Derived.Test.YtaelacpkagcffaaTexts
import Derived.Test.YtaelacpkagcffaaRunTexts
import Derived.Test.YtaelacpkagcffaaDrawRuns
import Derived.Test.YtaelacpkagcffaaEvFns
import Derived.Test.YtaelacpkagcffaaDrawEvs
import Derived.Test.YtaelacpkagcffaaSameEv
namespace Go.Proofs.Ytaelacpkagcffaa
set_option linter.unusedVariables false
set_option maxRecDepth 100000
open Go.ChangeShapes Go.WideShapes Go.ChangeAt Go.RowKit

set_option maxHeartbeats 8000000 in
theorem eventsPart_law (W : World) (v : Value) (h : IsCode W v) : Calls Try.prog 11 #[v] W fun e W' => e = .returned (.bool true) ∧ Below W.heap.size W W' := by
  obtain ⟨A, c, zs, rfl, hz⟩ := h
  have hl := hz.len
  have hc := hz.cap
  by_cases h20 : 1048576 < zs.length
  · go_enter Try.func11, Try.ntmps11
    go_wp2
    go_ret
    exact ⟨rfl, Below.refl _ _⟩
  go_enter Try.func11, Try.ntmps11
  go_wp2_with fail
  (with_reducible refine (drawEventsRun_any A c zs W hz).mono ?_)
  rintro e w1 ⟨ver, SA, sc, ss, EA, ec, es, rfl, hel, hes, hT, b_1⟩
  have hst := hT.sts
  have h1 := hT.one
  have h6 := hT.six
  have hss : ss.length ≤ 2000000 := by omega
  clear hT
  have st_1 := hst
  have ev_1 := hes
  clear hst hes
  go_wp2_with fail
  (with_reducible refine (iEventsRun_any ver SA EA sc ec ss es _ _ _ (st_1.alloc2 _) (ev_1.alloc2 _) hss).mono ?_)
  rintro e w2 ⟨A2, c2, rfl, ho2, hr2⟩
  have hb2 : Below w1.heap.size w1 w2 := bthen ((Below.refl _ _).alloc (Nat.le_refl _) _) hr2
  have st_2 := st_1.then_ hb2
  have ev_2 := ev_1.then_ hb2
  have qf_2 := (Cell2.new w1 (.int .i64 ver) (.slice SA ss.length sc) 38).then_ hr2
  have b_2 := bthen b_1 hb2
  have z_2 := hb2.size
  clear st_1 ev_1 b_1 hr2 hb2
  have o_2 := ho2.strs
  clear ho2
  obtain ⟨pf20, pf21⟩ := (qf_2.alloc (.cells #[.int .i64 (erSt ver ss es), .slice A2 (erDone ver ss es).length c2] 33))
  go_wp2_with fail
  (with_reducible refine (sEventsRun_any ver SA EA sc ec ss es _ _ _ (st_2.alloc2 _) (ev_2.alloc2 _) hss).mono ?_)
  rintro e w3 ⟨A3, c3, rfl, ho3, hr3⟩
  have hb3 : Below w2.heap.size w2 w3 := bthen ((Below.refl _ _).alloc (Nat.le_refl _) _) hr3
  have st_3 := st_2.then_ hb3
  have ev_3 := ev_2.then_ hb3
  have o_3 := o_2.then_ hb3
  have qf_3 := qf_2.then_ hb3
  have qo_3 := (Cell2.new w2 (.int .i64 (erSt ver ss es)) (.slice A2 (erDone ver ss es).length c2) 33).then_ hr3
  have b_3 := bthen b_2 hb3
  have z_3 := hb3.size
  clear st_2 ev_2 o_2 qf_2 b_2 pf20 pf21 hr3 hb3
  have n_3 := ho3.strs
  clear ho3
  have hne : (((erN ver ss es : Nat) : Int) != ((erN ver ss es : Nat) : Int)) = false := by simp
  have heq : (((erN ver ss es : Nat) : Int) == ((erN ver ss es : Nat) : Int)) = true := by simp
  cases hok : erB ver ss es
  · clear hok
    obtain ⟨pf30, pf31⟩ := (qf_3.alloc (.cells #[.int .i64 (erSt ver ss es), .slice A3 (erDone ver ss es).length c3] 33))
    obtain ⟨po30, po31⟩ := (qo_3.alloc (.cells #[.int .i64 (erSt ver ss es), .slice A3 (erDone ver ss es).length c3] 33))
    go_wp2_with fail
    (with_reducible refine (sameRun_same (erSt ver ss es) A2 A3 c2 c3 (erDone ver ss es) _ _ _ (o_3.alloc2 _) (n_3.alloc2 _)).mono ?_)
    rintro e w4 ⟨rfl, hr4⟩
    have hb4 : Below w3.heap.size w3 w4 := bthen ((Below.refl _ _).alloc (Nat.le_refl _) _) hr4
    have st_4 := st_3.then_ hb4
    have ev_4 := ev_3.then_ hb4
    have o_4 := o_3.then_ hb4
    have n_4 := n_3.then_ hb4
    have qf_4 := qf_3.then_ hb4
    have qo_4 := qo_3.then_ hb4
    have qn_4 := (Cell2.new w3 (.int .i64 (erSt ver ss es)) (.slice A3 (erDone ver ss es).length c3) 33).then_ hr4
    have b_4 := bthen b_3 hb4
    have z_4 := hb4.size
    clear st_3 ev_3 o_3 n_3 qf_3 qo_3 b_3 pf30 pf31 po30 po31 hr4 hb4
    obtain ⟨pf40, pf41⟩ := id qf_4
    obtain ⟨po40, po41⟩ := id qo_4
    obtain ⟨pn40, pn41⟩ := id qn_4
    go_wp2_with fail
    (with_reducible refine (sameRun_same (erSt ver ss es) A2 A3 c2 c3 (erDone ver ss es) _ _ _ o_4 n_4).mono ?_)
    rintro e w5 ⟨rfl, hr5⟩
    have hb5 : Below w4.heap.size w4 w5 := hr5
    have st_5 := st_4.then_ hb5
    have ev_5 := ev_4.then_ hb5
    have o_5 := o_4.then_ hb5
    have n_5 := n_4.then_ hb5
    have qf_5 := qf_4.then_ hb5
    have qo_5 := qo_4.then_ hb5
    have qn_5 := qn_4.then_ hb5
    have b_5 := bthen b_4 hb5
    have z_5 := hb5.size
    clear st_4 ev_4 o_4 n_4 qf_4 qo_4 qn_4 b_4 pf40 pf41 po40 po41 pn40 pn41 hr5 hb5
    go_wp2_with fail
    go_ret
    exact ⟨rfl, b_5⟩
  have Hok := Lib.hid hok
  clear hok
  obtain ⟨pf30, pf31⟩ := (qf_3.alloc (.cells #[.int .i64 (erSt ver ss es), .slice A3 (erDone ver ss es).length c3] 33))
  obtain ⟨po30, po31⟩ := (qo_3.alloc (.cells #[.int .i64 (erSt ver ss es), .slice A3 (erDone ver ss es).length c3] 33))
  go_wp2_with fail
  (with_reducible refine (sameRun_same (erSt ver ss es) A2 A3 c2 c3 (erDone ver ss es) _ _ _ (o_3.alloc2 _) (n_3.alloc2 _)).mono ?_)
  rintro e w4 ⟨rfl, hr4⟩
  have hb4 : Below w3.heap.size w3 w4 := bthen ((Below.refl _ _).alloc (Nat.le_refl _) _) hr4
  have st_4 := st_3.then_ hb4
  have ev_4 := ev_3.then_ hb4
  have o_4 := o_3.then_ hb4
  have n_4 := n_3.then_ hb4
  have qf_4 := qf_3.then_ hb4
  have qo_4 := qo_3.then_ hb4
  have qn_4 := (Cell2.new w3 (.int .i64 (erSt ver ss es)) (.slice A3 (erDone ver ss es).length c3) 33).then_ hr4
  have b_4 := bthen b_3 hb4
  have z_4 := hb4.size
  clear st_3 ev_3 o_3 n_3 qf_3 qo_3 b_3 pf30 pf31 po30 po31 hr4 hb4
  clear n_4
  clear qn_4
  obtain ⟨q1, q2, q3, q4⟩ := er_take Hok.out
  have hnl := erN_le (ver := ver) (ss := ss) (es := es)
  have hev := ev_4.len
  have hec := ev_4.cap
  have hl2 : (es.take (erN ver ss es)).length = erN ver ss es := by rw [List.length_take]; omega
  have KD : Hid (∀ wx, Below w4.drew.heap.size w4.drew wx → Calls Try.prog 29 #[flowV ver SA ss.length sc, .slice EA (erN ver ss es) ec] wx (RetRunN (erSt ver ss es) (erDone ver ss es) (erN ver ss es) true wx)) := Lib.hid (fun wx hx => by
    have hu := Below.undrew hx
    have hh := iEventsRun_any ver SA EA sc ec ss (es.take (erN ver ss es)) wx _ _ (st_4.then_ hu) ((ev_4.then_ hu).take _) hss
    rw [q1, q2, q3, q4, hl2] at hh
    exact hh)
  clear q1 q2 q3 q4 hl2
  generalize erN ver ss es = N at *
  generalize erDone ver ss es = ud at *
  generalize erSt ver ss es = us at *
  have hi0 : (0 : Int) ≤ N := by omega
  have hi1 : (N : Int) ≤ ec := by omega
  have hi2 : (N : Int) ≤ es.length := by omega
  go_upto_region 8 with fail
  go_cut [11, 12, 13] (fun vb vs vo wx => CutRun w4 us ud w4.heap.size vb wx ∧ vs = .int .i64 (N : Int) ∧ vo = .bool true)
  case first =>
    have hS : ∀ wx, Below w4.drew.heap.size w4.drew wx → wx.cell? ⟨w1.heap.size, 0, none⟩ = some (.int .i64 ver) ∧ wx.cell? ⟨w1.heap.size, 1, none⟩ = some (.slice SA ss.length sc) := fun wx hx =>
      have hu := Below.undrew hx
      ⟨(qf_4.then_ hu).c0, (qf_4.then_ hu).c1⟩
    have HS := Lib.hid hS
    have t0 := Below.refl w4.drew.heap.size w4.drew
    have tA : Below w4.drew.heap.size w4.drew (w4.alloc (.cells #[.int .i64 0, .slice none 0 0] 33)).drew := below_drew ((Below.refl _ _).alloc (Nat.le_refl _) _)
    have bxA : RBox (w4.alloc (.cells #[.int .i64 0, .slice none 0 0] 33)).drew w4.heap.size (.int .i64 0) (.slice none 0 0) := (RBox.new w4 _ _).drew
    have S0 := HS.out _ t0
    have SA0 := HS.out _ tA
    have hlow := qf_4.lt
    have Hlow := Lib.hid hlow
    clear hS hlow
    go_region_held3 (fun wx => wx.cell? ⟨w1.heap.size, 0, none⟩ = some (.int .i64 ver) ∧ wx.cell? ⟨w1.heap.size, 1, none⟩ = some (.slice SA ss.length sc))
      (first
        | exact Sb | exact S0 | exact SA0
        | exact And.intro (cell_alR Sb.1 _) (cell_alR Sb.2 _)
        | exact And.intro (cell_stR (blk_ne Hlow.out (Nat.le_refl _)) (cell_stR (blk_ne Hlow.out (Nat.le_refl _)) Sb.1)) (cell_stR (blk_ne Hlow.out (Nat.le_refl _)) (cell_stR (blk_ne Hlow.out (Nat.le_refl _)) Sb.2)))
      (first
        | (go_at_call 29; (with_reducible refine (KD.out _ tA).mono ?_); rintro e wb ⟨A7, c7, rfl, ho7, hbb⟩; have tb := bthen tA hbb; have bl := bxA.lt; have bx := bxA.then_ hbb; have bf := fun i => bx.free i; obtain ⟨bc0, bc1⟩ := bx.cells; have Sb := HS.out _ tb)
        | (go_at_call 29; (with_reducible refine (KD.out _ t0).mono ?_); rintro e wb ⟨A7, c7, rfl, ho7, hbb⟩; have tb := bthen t0 hbb; have Sb := HS.out _ tb))
    all_goals
      go_wp2_with fail
      go_meet
      first
        | exact ⟨cut_early (Below.undrew tb) bx (Nat.le_refl _) (Nat.le_refl _) ho7 bl, rfl, rfl⟩
        | exact ⟨cut_last (Below.undrew tb) ho7 (Nat.le_refl _) (Below.undrew tb).size, rfl, rfl⟩
  case rest =>
    obtain ⟨w8, rfl⟩ : ∃ w8 : World, w8 = wc := ⟨_, rfl⟩
    obtain ⟨⟨b, A7, c7, rfl, qb, hβ, lb, ho7, hn7, hb8⟩, rfl, rfl⟩ := hcut
    obtain ⟨y0, y1⟩ := qb
    obtain ⟨x0, x1⟩ := qo_4.then_ hb8
    have o8 := o_4.then_ hb8
    have b8 := bthen b_4 hb8
    go_wp2_with fail
    (with_reducible refine (sameRun_same us A7 A2 c7 c2 ud _ _ _ ho7.strs o8).mono ?_)
    rintro e w9 ⟨rfl, hb9⟩
    go_wp2_with fail
    go_ret
    exact ⟨rfl, bthen b8 hb9⟩

set_option maxRecDepth 100000 in
theorem fnEventsPart_lifted (os : Os) (started : os.Started) (H : Type) (enc : TypeId × Value → H) :
    ReturnsInHanded {} Try.checked os 11 .any (Rows.fnEventsPartSpec.pre6 enc Try.prog Try.f11 Rows.fnEventsPartRow.domain false) (Rows.fnEventsPartSpec.post enc Try.prog Try.f11 false true false false) := by
  refine returnsInHanded_of_change (C := Try.checked) own started (by kernel_rfl) Try.func11
    (ChangeSpec.witness6 (enc := enc) (C := Try.checked) false ⟨#[], #[.slice none 0 0], []⟩ 8 (by kernel_rfl) (by kernel_rfl) (by kernel_rfl) (by kernel_rfl)) ?_
  intro W base args ds gs before hval0 hW _ _
  have hval : ∀ (j : Nat) t v, Try.f11.params[j]? = some t → args[j]? = some v → Value.okWide Try.prog W .any base t v := hval0
  obtain ⟨p, q, hA0, hV, _⟩ := id hW
  have hA : DataW.TrodAll enc Try.prog W 0 (fun _ => true) true Try.f11.params.toList args.toList ds p := hA0
  rw [Try.params11] at hA hval
  obtain ⟨v0, d0, rfl, rfl, h0⟩ := trodAll_one hA
  obtain ⟨rfl, rfl⟩ := trodVars_none hV
  refine (eventsPart_law W v0 (arg_code (hval 0 _ v0 rfl rfl) h0)).mono fun e W' ⟨he, hw⟩ => ?_
  subst he
  exact ⟨_, rfl, law_post laidOut (readable_of (by kernel_rfl)) rfl Try.underlying4 rfl rfl rfl rfl hW hw⟩

theorem fnEventsPart_holds : Rows.FnEventsPartSaid :=
  OpenClaim.holds_of_wide 11 Try.f11 rfl rfl rfl rfl rfl rfl rfl ⟨rfl, rfl, rfl, rfl, rfl⟩ rfl rfl rfl rfl rfl (by kernel_rfl) Try.func11 (by kernel_rfl)
    (of_decide_eq_true (by kernel_rfl)) (by unfold Func.isWrapper; rw [if_neg (of_decide_eq_false (by kernel_rfl))]; exact ⟨rfl, rfl⟩)
    (fun os started H enc _ => fnEventsPart_lifted os started H enc)

end Go.Proofs.Ytaelacpkagcffaa
