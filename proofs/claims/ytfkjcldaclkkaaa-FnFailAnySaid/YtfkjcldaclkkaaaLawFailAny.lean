/- FnFailAny returns true for every code. No condition. -/
import Derived.Test.YtfkjcldaclkkaaaArgs
import Derived.Test.YtfkjcldaclkkaaaRunLaws
import Derived.Test.YtfkjcldaclkkaaaRunFns
import Derived.Test.YtfkjcldaclkkaaaSpecRunFns
import Derived.Test.YtfkjcldaclkkaaaFlowFns
import Derived.Test.YtfkjcldaclkkaaaTexts
import Derived.Test.YtfkjcldaclkkaaaRunTexts
import Derived.Test.YtfkjcldaclkkaaaDrawRuns
namespace Go.Proofs.Ytfkjcldaclkkaaa
set_option linter.unusedVariables false
set_option maxRecDepth 100000
open Go.ChangeShapes Go.WideShapes Go.ChangeAt Go.RowKit

set_option maxHeartbeats 8000000 in
theorem failAny_law (W : World) (v : Value) (h : IsCode W v) : Calls Try.prog 14 #[v] W fun e W' => e = .returned (.bool true) ∧ Below W.heap.size W W' := by
  obtain ⟨A, c, zs, rfl, hz⟩ := h
  have hl := hz.len
  have hc := hz.cap
  by_cases h20 : 1048576 < zs.length
  · go_enter Try.func14, Try.ntmps14
    go_wp2
    go_ret
    exact ⟨rfl, Below.refl _ _⟩
  go_enter Try.func14, Try.ntmps14
  go_wp2_with fail
  (with_reducible refine (drawRunFail_any A c zs W hz).mono ?_)
  rintro e w1 ⟨ver, SA, sc, ss, st, D, d, done, nm, rfl, hnm, hT, b_1⟩
  have hst := hT.sts
  have hdn := hT.strs
  have h1 := hT.one
  have h6 := hT.six
  have hl7 := hT.len
  have hss : ss.length ≤ 2000000 := by omega
  clear hT
  have hnm9 : nm.size ≤ 9223372036854775807 := by omega
  have st_1 := hst
  have dn_1 := hdn
  clear hst hdn
  go_wp2_with fail
  (with_reducible refine (iRunFail_any ver st SA D sc d ss done nm _ _ _ ((st_1.alloc2 _).alloc2 _) ((dn_1.alloc2 _).alloc2 _) hss).mono ?_)
  rintro e w2 ⟨A2, c2, rfl, ho2, hr2⟩
  have hb2 : Below w1.heap.size w1 w2 := bthen (((Below.refl _ _).alloc (Nat.le_refl _) _).alloc (by simp) _) hr2
  have st_2 := st_1.then_ hb2
  have dn_2 := dn_1.then_ hb2
  have qf_2 := ((Cell2.new w1 (.int .i64 ver) (.slice SA ss.length sc) 25).alloc (.cells #[.int .i64 st, .slice D done.length d] 52)).then_ hr2
  have qr_2 : Cell2 w2 (w1.heap.size + 1) (.int .i64 st) (.slice D done.length d) := by have := (Cell2.new (w1.alloc (.cells #[.int .i64 ver, .slice SA ss.length sc] 25)) (.int .i64 st) (.slice D done.length d) 52).then_ hr2; simpa using this
  have b_2 := bthen b_1 hb2
  have z_2 := hb2.size
  clear st_1 dn_1 b_1 hr2 hb2
  have o_2 := ho2.strs
  clear ho2
  obtain ⟨pf20, pf21⟩ := (qf_2.alloc (.cells #[.int .i64 (failSt ver ss st done nm), .slice A2 (failDone ver ss st done nm).length c2] 52))
  obtain ⟨pr20, pr21⟩ := (qr_2.alloc (.cells #[.int .i64 (failSt ver ss st done nm), .slice A2 (failDone ver ss st done nm).length c2] 52))
  go_wp2_with fail
  (with_reducible refine (sRunFail_any ver st SA D sc d ss done nm _ _ _ (st_2.alloc2 _) (dn_2.alloc2 _) hss).mono ?_)
  rintro e w3 ⟨A3, c3, rfl, ho3, hr3⟩
  have hb3 : Below w2.heap.size w2 w3 := bthen ((Below.refl _ _).alloc (Nat.le_refl _) _) hr3
  have st_3 := st_2.then_ hb3
  have dn_3 := dn_2.then_ hb3
  have o_3 := o_2.then_ hb3
  have qf_3 := qf_2.then_ hb3
  have qr_3 := qr_2.then_ hb3
  have qo_3 := (Cell2.new w2 (.int .i64 (failSt ver ss st done nm)) (.slice A2 (failDone ver ss st done nm).length c2) 52).then_ hr3
  have b_3 := bthen b_2 hb3
  have z_3 := hb3.size
  clear st_2 dn_2 o_2 qf_2 qr_2 b_2 pf20 pf21 pr20 pr21 hr3 hb3
  have n_3 := ho3.strs
  clear ho3
  cases hcan : canB ver ss st done nm
  · clear hcan
    obtain ⟨pf30, pf31⟩ := (qf_3.alloc (.cells #[.int .i64 (failSt ver ss st done nm), .slice A3 (failDone ver ss st done nm).length c3] 52))
    obtain ⟨pr30, pr31⟩ := (qr_3.alloc (.cells #[.int .i64 (failSt ver ss st done nm), .slice A3 (failDone ver ss st done nm).length c3] 52))
    obtain ⟨po30, po31⟩ := (qo_3.alloc (.cells #[.int .i64 (failSt ver ss st done nm), .slice A3 (failDone ver ss st done nm).length c3] 52))
    go_wp2_with fail
    (with_reducible refine (sameRun_same (failSt ver ss st done nm) A2 A3 c2 c3 (failDone ver ss st done nm) _ _ _ (o_3.alloc2 _) (n_3.alloc2 _)).mono ?_)
    rintro e w4 ⟨rfl, hr4⟩
    have hb4 : Below w3.heap.size w3 w4 := bthen ((Below.refl _ _).alloc (Nat.le_refl _) _) hr4
    have st_4 := st_3.then_ hb4
    have dn_4 := dn_3.then_ hb4
    have o_4 := o_3.then_ hb4
    have n_4 := n_3.then_ hb4
    have qf_4 := qf_3.then_ hb4
    have qr_4 := qr_3.then_ hb4
    have qo_4 := qo_3.then_ hb4
    have qn_4 := (Cell2.new w3 (.int .i64 (failSt ver ss st done nm)) (.slice A3 (failDone ver ss st done nm).length c3) 52).then_ hr4
    have b_4 := bthen b_3 hb4
    have z_4 := hb4.size
    clear st_3 dn_3 o_3 n_3 qf_3 qr_3 qo_3 b_3 pf30 pf31 pr30 pr31 po30 po31 hr4 hb4
    obtain ⟨pf40, pf41⟩ := id qf_4
    obtain ⟨pr40, pr41⟩ := id qr_4
    obtain ⟨po40, po41⟩ := id qo_4
    obtain ⟨pn40, pn41⟩ := id qn_4
    go_wp2_with fail
    (with_reducible refine (sameRun_same (failSt ver ss st done nm) A2 A3 c2 c3 (failDone ver ss st done nm) _ _ _ o_4 n_4).mono ?_)
    rintro e w5 ⟨rfl, hr5⟩
    have hb5 : Below w4.heap.size w4 w5 := hr5
    have st_5 := st_4.then_ hb5
    have dn_5 := dn_4.then_ hb5
    have o_5 := o_4.then_ hb5
    have n_5 := n_4.then_ hb5
    have qf_5 := qf_4.then_ hb5
    have qr_5 := qr_4.then_ hb5
    have qo_5 := qo_4.then_ hb5
    have qn_5 := qn_4.then_ hb5
    have b_5 := bthen b_4 hb5
    have z_5 := hb5.size
    clear st_4 dn_4 o_4 n_4 qf_4 qr_4 qo_4 qn_4 b_4 pf40 pf41 pr40 pr41 po40 po41 pn40 pn41 hr5 hb5
    go_wp2_with fail
    go_ret
    exact ⟨rfl, b_5⟩
  have Hcan := Lib.hid hcan
  clear hcan
  obtain ⟨pf30, pf31⟩ := (qf_3.alloc (.cells #[.int .i64 (failSt ver ss st done nm), .slice A3 (failDone ver ss st done nm).length c3] 52))
  obtain ⟨pr30, pr31⟩ := (qr_3.alloc (.cells #[.int .i64 (failSt ver ss st done nm), .slice A3 (failDone ver ss st done nm).length c3] 52))
  obtain ⟨po30, po31⟩ := (qo_3.alloc (.cells #[.int .i64 (failSt ver ss st done nm), .slice A3 (failDone ver ss st done nm).length c3] 52))
  go_wp2_with fail
  (with_reducible refine (sameRun_same (failSt ver ss st done nm) A2 A3 c2 c3 (failDone ver ss st done nm) _ _ _ (o_3.alloc2 _) (n_3.alloc2 _)).mono ?_)
  rintro e w4 ⟨rfl, hr4⟩
  have hb4 : Below w3.heap.size w3 w4 := bthen ((Below.refl _ _).alloc (Nat.le_refl _) _) hr4
  have st_4 := st_3.then_ hb4
  have dn_4 := dn_3.then_ hb4
  have o_4 := o_3.then_ hb4
  have n_4 := n_3.then_ hb4
  have qf_4 := qf_3.then_ hb4
  have qr_4 := qr_3.then_ hb4
  have qo_4 := qo_3.then_ hb4
  have qn_4 := (Cell2.new w3 (.int .i64 (failSt ver ss st done nm)) (.slice A3 (failDone ver ss st done nm).length c3) 52).then_ hr4
  have b_4 := bthen b_3 hb4
  have z_4 := hb4.size
  clear st_3 dn_3 o_3 n_3 qf_3 qr_3 qo_3 b_3 pf30 pf31 pr30 pr31 po30 po31 hr4 hb4
  clear n_4
  clear qn_4
  obtain ⟨pf40, pf41⟩ := id qf_4
  obtain ⟨pr40, pr41⟩ := id qr_4
  obtain ⟨po40, po41⟩ := id qo_4
  go_wp2_with fail
  (with_reducible refine (iRunNext_any ver st SA D sc d ss done _ _ _ st_4 dn_4 hss).mono ?_)
  rintro e w5 ⟨A5, c5, rfl, ho5, hr5⟩
  have hb5 : Below w4.heap.size w4 w5 := hr5
  have st_5 := st_4.then_ hb5
  have dn_5 := dn_4.then_ hb5
  have o_5 := o_4.then_ hb5
  have qf_5 := qf_4.then_ hb5
  have qr_5 := qr_4.then_ hb5
  have qo_5 := qo_4.then_ hb5
  have b_5 := bthen b_4 hb5
  have z_5 := hb5.size
  clear st_4 dn_4 o_4 qf_4 qr_4 qo_4 b_4 pf40 pf41 pr40 pr41 po40 po41 hr5 hb5
  have hnp := next_pos Hcan.out
  have hany : ∀ x ∈ nextOut ver ss st done, canB ver ss st done x = true ∧ failSt ver ss st done x = failSt ver ss st done nm ∧ failDone ver ss st done x = failDone ver ss st done nm := fun x hx => fail_any Hcan.out hx
  have Hany := Lib.hid hany
  clear hany
  generalize nextOut ver ss st done = nx at *
  generalize failSt ver ss st done nm = fst_ at *
  generalize failDone ver ss st done nm = fdn at *
  have hnl := ho5.strs.len
  have hnc := ho5.strs.cap
  have nx_5 := ho5.strs
  clear ho5
  go_wp2_with fail
  go_loopw [11] (fun i wr => ∃ k : Nat, k ≤ nx.length ∧ i = .int .i64 k ∧ Below w5.heap.size w5 wr) (fun i _ => nx.length - (intOf i).toNat)
  case atStart => exact ⟨0, Nat.zero_le _, rfl, Below.refl _ _⟩
  case round =>
    obtain ⟨k, hk, rfl, hb⟩ := hrel
    have hbW := bthen b_5 hb
    by_cases hlt : k < nx.length
    · have qf := qf_5.then_ hb
      have qr := qr_5.then_ hb
      have qo := qo_5.then_ hb
      have st1 := st_5.then_ hb
      have dn1 := dn_5.then_ hb
      have o1 := o_5.then_ hb
      obtain ⟨ad, rfl, had, hcell⟩ := (nx_5.then_ hb).at_ hlt
      obtain ⟨ha1, ha2, ha3⟩ := Hany.out nx[k] (List.getElem_mem hlt)
      have had' := Nat.lt_of_lt_of_le had hb.size
      have hi0 : (0 : Int) ≤ k := by omega
      have hi1 : (k : Int) < nx.length := by omega
      have KD : Hid (∀ wx, Below wr.drew.heap.size wr.drew wx → Calls Try.prog 48 #[flowV ver SA ss.length sc, runV st D done.length d, .string nx[k]] wx (RetRun fst_ fdn true wx)) := fun wx hx => by
        have h := iRunFail_any ver st SA D sc d ss done nx[k] wx _ _ (st1.drew.then_ hx) (dn1.drew.then_ hx) hss
        rw [ha1, ha2, ha3] at h
        exact h
      clear ha1 ha2 ha3
      go_upto_region 12 with fail
      go_cut [12, 13] (fun vb vo wx => CutRun wr fst_ fdn wr.heap.size vb wx ∧ vo = .bool true)
      case first =>
        have hS : ∀ wx, Below wr.drew.heap.size wr.drew wx → (wx.cell? ⟨w1.heap.size, 0, none⟩ = some (.int .i64 ver) ∧ wx.cell? ⟨w1.heap.size, 1, none⟩ = some (.slice SA ss.length sc)) ∧ (wx.cell? ⟨w1.heap.size + 1, 0, none⟩ = some (.int .i64 st) ∧ wx.cell? ⟨w1.heap.size + 1, 1, none⟩ = some (.slice D done.length d)) ∧ wx.cell? (ad.add k) = some (.string nx[k]) := fun wx hx =>
          have hu := Below.undrew hx
          ⟨⟨(qf.then_ hu).c0, (qf.then_ hu).c1⟩, ⟨(qr.then_ hu).c0, (qr.then_ hu).c1⟩, (hu.cell (World.block_lt_of_cell? _ _ hcell)).trans hcell⟩
        have HS := Lib.hid hS
        have t0 := Below.refl wr.drew.heap.size wr.drew
        have tA : Below wr.drew.heap.size wr.drew (wr.alloc (.cells #[.int .i64 0, .slice none 0 0] 52)).drew := below_drew ((Below.refl _ _).alloc (Nat.le_refl _) _)
        have bxA : RBox (wr.alloc (.cells #[.int .i64 0, .slice none 0 0] 52)).drew wr.heap.size (.int .i64 0) (.slice none 0 0) := (RBox.new wr _ _).drew
        have S0 := HS.out _ t0
        have SA0 := HS.out _ tA
        have hlow : (w1.heap.size < wr.heap.size ∧ w1.heap.size + 1 < wr.heap.size) ∧ (ad.add k).block < wr.heap.size := ⟨⟨qf.lt, qr.lt⟩, by rw [block_of_add]; exact had'⟩
        have Hlow := Lib.hid hlow
        clear hS hlow hcell had had' qf qr qo
        go_region_held3 (fun wx => (wx.cell? ⟨w1.heap.size, 0, none⟩ = some (.int .i64 ver) ∧ wx.cell? ⟨w1.heap.size, 1, none⟩ = some (.slice SA ss.length sc)) ∧ (wx.cell? ⟨w1.heap.size + 1, 0, none⟩ = some (.int .i64 st) ∧ wx.cell? ⟨w1.heap.size + 1, 1, none⟩ = some (.slice D done.length d)) ∧ wx.cell? (ad.add k) = some (.string nx[k]))
          (first
            | exact Sb | exact S0 | exact SA0
            | exact And.intro (And.intro (cell_alR Sb.1.1 _) (cell_alR Sb.1.2 _)) (And.intro (And.intro (cell_alR Sb.2.1.1 _) (cell_alR Sb.2.1.2 _)) (cell_alR Sb.2.2 _))
            | exact And.intro (And.intro (cell_stR (blk_ne Hlow.out.1.1 (Nat.le_refl _)) (cell_stR (blk_ne Hlow.out.1.1 (Nat.le_refl _)) Sb.1.1)) (cell_stR (blk_ne Hlow.out.1.1 (Nat.le_refl _)) (cell_stR (blk_ne Hlow.out.1.1 (Nat.le_refl _)) Sb.1.2))) (And.intro (And.intro (cell_stR (blk_ne Hlow.out.1.2 (Nat.le_refl _)) (cell_stR (blk_ne Hlow.out.1.2 (Nat.le_refl _)) Sb.2.1.1)) (cell_stR (blk_ne Hlow.out.1.2 (Nat.le_refl _)) (cell_stR (blk_ne Hlow.out.1.2 (Nat.le_refl _)) Sb.2.1.2))) (cell_stR (farb_ne Hlow.out.2 (Nat.le_refl _)) (cell_stR (farb_ne Hlow.out.2 (Nat.le_refl _)) Sb.2.2))))
          (first
            | (go_at_call 48; (with_reducible refine (KD.out _ tA).mono ?_); rintro e wb ⟨A7, c7, rfl, ho7, hbb⟩; have tb := bthen tA hbb; have bl := bxA.lt; have bx := bxA.then_ hbb; have bf := fun i => bx.free i; obtain ⟨bc0, bc1⟩ := bx.cells; have Sb := HS.out _ tb)
            | (go_at_call 48; (with_reducible refine (KD.out _ t0).mono ?_); rintro e wb ⟨A7, c7, rfl, ho7, hbb⟩; have tb := bthen t0 hbb; have Sb := HS.out _ tb))
        all_goals
          go_wp2_with fail
          go_meet
          first
            | exact ⟨cut_early (Below.undrew tb) bx (Nat.le_refl _) (Nat.le_refl _) ho7 bl, rfl⟩
            | exact ⟨cut_last (Below.undrew tb) ho7 (Nat.le_refl _) (Below.undrew tb).size, rfl⟩
      case rest =>
        obtain ⟨w8, rfl⟩ : ∃ w8 : World, w8 = wc := ⟨_, rfl⟩
        obtain ⟨⟨b, A7, c7, rfl, qb, hβ, lb, ho7, hn7, hb8⟩, rfl⟩ := hcut
        obtain ⟨b0, b1⟩ := qb
        obtain ⟨x0, x1⟩ := qo.then_ hb8
        have o8 := o1.then_ hb8
        have hb8' := bthen hb hb8
        clear hcell
        go_wp2_with fail
        (with_reducible refine (sameRun_same fst_ A7 A2 c7 c2 fdn _ _ _ ho7.strs o8).mono ?_)
        rintro e w9 ⟨rfl, hb9⟩
        go_wp2_with fail
        go_roundw
        case rel => exact ⟨k + 1, by omega, by go_num, bthen hb8' hb9⟩
        case measure => simp [intOf]; omega
    · have hlp : (0 : Int) < nx.length := by omega
      have hld : decide ((0 : Int) < nx.length) = true := decide_eq_true hlp
      go_wp2_with fail
      go_ret
      exact ⟨rfl, hbW⟩

set_option maxRecDepth 100000 in
theorem fnFailAny_lifted (os : Os) (started : os.Started) (H : Type) (enc : TypeId × Value → H) :
    ReturnsInHanded {} Try.checked os 14 .any (Rows.fnFailAnySpec.pre6 enc Try.prog Try.f14 Rows.fnFailAnyRow.domain false) (Rows.fnFailAnySpec.post enc Try.prog Try.f14 false true false false) := by
  refine returnsInHanded_of_change (C := Try.checked) own started (by kernel_rfl) Try.func14
    (ChangeSpec.witness6 (enc := enc) (C := Try.checked) false ⟨#[], #[.slice none 0 0], []⟩ 8 (by kernel_rfl) (by kernel_rfl) (by kernel_rfl) (by kernel_rfl)) ?_
  intro W base args ds gs before hval0 hW _ _
  have hval : ∀ (j : Nat) t v, Try.f14.params[j]? = some t → args[j]? = some v → Value.okWide Try.prog W .any base t v := hval0
  obtain ⟨p, q, hA0, hV, _⟩ := id hW
  have hA : DataW.TrodAll enc Try.prog W 0 (fun _ => true) true Try.f14.params.toList args.toList ds p := hA0
  rw [Try.params14] at hA hval
  obtain ⟨v0, d0, rfl, rfl, h0⟩ := trodAll_one hA
  obtain ⟨rfl, rfl⟩ := trodVars_none hV
  refine (failAny_law W v0 (arg_code (hval 0 _ v0 rfl rfl) h0)).mono fun e W' ⟨he, hw⟩ => ?_
  subst he
  exact ⟨_, rfl, law_post laidOut (readable_of (by kernel_rfl)) rfl Try.underlying4 rfl rfl rfl rfl hW hw⟩

theorem fnFailAny_holds : Rows.FnFailAnySaid :=
  OpenClaim.holds_of_wide 14 Try.f14 rfl rfl rfl rfl rfl rfl rfl ⟨rfl, rfl, rfl, rfl, rfl⟩ rfl rfl rfl rfl rfl (by kernel_rfl) Try.func14 (by kernel_rfl)
    (of_decide_eq_true (by kernel_rfl)) (by unfold Func.isWrapper; rw [if_neg (of_decide_eq_false (by kernel_rfl))]; exact ⟨rfl, rfl⟩)
    (fun os started H enc _ => fnFailAny_lifted os started H enc)

end Go.Proofs.Ytfkjcldaclkkaaa
