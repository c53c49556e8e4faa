/- FnUndoStop returns true for every code. No condition. -/
import Derived.Test.YtnekjmpmjadmhaaArgs
import Derived.Test.YtnekjmpmjadmhaaRunLaws
import Derived.Test.YtnekjmpmjadmhaaRunFns
import Derived.Test.YtnekjmpmjadmhaaSpecRunFns
import Derived.Test.YtnekjmpmjadmhaaFlowFns
import Derived.Test.YtnekjmpmjadmhaaTexts
import Derived.Test.YtnekjmpmjadmhaaRunTexts
import Derived.Test.YtnekjmpmjadmhaaDrawRuns
import Derived.Test.YtnekjmpmjadmhaaDrawUndo
import Derived.Test.YtnekjmpmjadmhaaUndoLaws
import Derived.Test.YtnekjmpmjadmhaaFind
import Derived.Test.YtnekjmpmjadmhaaCutStep
namespace Go.Proofs.Ytnekjmpmjadmhaa
set_option linter.unusedVariables false
set_option maxRecDepth 100000
open Go.ChangeShapes Go.WideShapes Go.ChangeAt Go.RowKit

set_option maxHeartbeats 8000000 in
theorem undoStop_law (W : World) (v : Value) (h : IsCode W v) : Calls Try.prog 5 #[v] W fun e W' => e = .returned (.bool true) ∧ Below W.heap.size W W' := by
  obtain ⟨A, c, zs, rfl, hz⟩ := h
  have hl := hz.len
  have hc := hz.cap
  by_cases h20 : 1048576 < zs.length
  · go_enter Try.func5, Try.ntmps5
    go_wp2
    go_ret
    exact ⟨rfl, Below.refl _ _⟩
  go_enter Try.func5, Try.ntmps5
  go_wp2_with fail
  (with_reducible refine (drawRunUndo_any A c zs W hz).mono ?_)
  rintro e w1 ⟨ver, SA, sc, ss, st, D, d, done, rfl, hT, b_1⟩
  have hst := hT.sts
  have hdn := hT.strs
  have h1 := hT.one
  have h6 := hT.six
  have hl7 := hT.len
  have hss : ss.length ≤ 2000000 := by omega
  clear hT
  have st_1 := hst
  have dn_1 := hdn
  clear hst hdn
  go_wp2_with fail
  (with_reducible refine (iRunUndo_any ver st SA D sc d ss done _ _ _ ((st_1.alloc2 _).alloc2 _) ((dn_1.alloc2 _).alloc2 _) hss).mono ?_)
  rintro e w2 ⟨A2, c2, rfl, ho2, hr2⟩
  have hb2 : Below w1.heap.size w1 w2 := bthen (((Below.refl _ _).alloc (Nat.le_refl _) _).alloc (by simp) _) hr2
  have st_2 := st_1.then_ hb2
  have dn_2 := dn_1.then_ hb2
  have qf_2 := ((Cell2.new w1 (.int .i64 ver) (.slice SA ss.length sc) 25).alloc (.cells #[.int .i64 st, .slice D done.length d] 28)).then_ hr2
  have qr_2 : Cell2 w2 (w1.heap.size + 1) (.int .i64 st) (.slice D done.length d) := by have := (Cell2.new (w1.alloc (.cells #[.int .i64 ver, .slice SA ss.length sc] 25)) (.int .i64 st) (.slice D done.length d) 28).then_ hr2; simpa using this
  have b_2 := bthen b_1 hb2
  have z_2 := hb2.size
  clear st_1 dn_1 b_1 hr2 hb2
  have o_2 := ho2.strs
  clear ho2
  obtain ⟨pf20, pf21⟩ := (qf_2.alloc (.cells #[.int .i64 (undoSt ver ss st done), .slice A2 (undoDone ver ss st done).length c2] 28))
  obtain ⟨pr20, pr21⟩ := (qr_2.alloc (.cells #[.int .i64 (undoSt ver ss st done), .slice A2 (undoDone ver ss st done).length c2] 28))
  go_wp2_with fail
  (with_reducible refine (sRunUndo_any ver st SA D sc d ss done _ _ _ (st_2.alloc2 _) (dn_2.alloc2 _) hss).mono ?_)
  rintro e w3 ⟨A3, c3, rfl, ho3, hr3⟩
  have hb3 : Below w2.heap.size w2 w3 := bthen ((Below.refl _ _).alloc (Nat.le_refl _) _) hr3
  have st_3 := st_2.then_ hb3
  have dn_3 := dn_2.then_ hb3
  have o_3 := o_2.then_ hb3
  have qf_3 := qf_2.then_ hb3
  have qr_3 := qr_2.then_ hb3
  have qo_3 := (Cell2.new w2 (.int .i64 (undoSt ver ss st done)) (.slice A2 (undoDone ver ss st done).length c2) 28).then_ hr3
  have b_3 := bthen b_2 hb3
  have z_3 := hb3.size
  clear st_2 dn_2 o_2 qf_2 qr_2 b_2 pf20 pf21 pr20 pr21 hr3 hb3
  have n_3 := ho3.strs
  clear ho3
  have hne : ((undoName ver ss st done).toList != (undoName ver ss st done).toList) = false := by simp
  have heq : ((undoName ver ss st done).toList == (undoName ver ss st done).toList) = true := by simp
  cases hcan : undoB ver ss st done
  · clear hcan
    obtain ⟨pf30, pf31⟩ := (qf_3.alloc (.cells #[.int .i64 (undoSt ver ss st done), .slice A3 (undoDone ver ss st done).length c3] 28))
    obtain ⟨pr30, pr31⟩ := (qr_3.alloc (.cells #[.int .i64 (undoSt ver ss st done), .slice A3 (undoDone ver ss st done).length c3] 28))
    obtain ⟨po30, po31⟩ := (qo_3.alloc (.cells #[.int .i64 (undoSt ver ss st done), .slice A3 (undoDone ver ss st done).length c3] 28))
    go_wp2_with fail
    (with_reducible refine (sameRun_same (undoSt ver ss st done) A2 A3 c2 c3 (undoDone ver ss st done) _ _ _ (o_3.alloc2 _) (n_3.alloc2 _)).mono ?_)
    rintro e w4 ⟨rfl, hr4⟩
    have hb4 : Below w3.heap.size w3 w4 := bthen ((Below.refl _ _).alloc (Nat.le_refl _) _) hr4
    have st_4 := st_3.then_ hb4
    have dn_4 := dn_3.then_ hb4
    have o_4 := o_3.then_ hb4
    have n_4 := n_3.then_ hb4
    have qf_4 := qf_3.then_ hb4
    have qr_4 := qr_3.then_ hb4
    have qo_4 := qo_3.then_ hb4
    have qn_4 := (Cell2.new w3 (.int .i64 (undoSt ver ss st done)) (.slice A3 (undoDone ver ss st done).length c3) 28).then_ hr4
    have b_4 := bthen b_3 hb4
    have z_4 := hb4.size
    clear st_3 dn_3 o_3 n_3 qf_3 qr_3 qo_3 b_3 pf30 pf31 pr30 pr31 po30 po31 hr4 hb4
    obtain ⟨pf40, pf41⟩ := id qf_4
    obtain ⟨pr40, pr41⟩ := id qr_4
    obtain ⟨po40, po41⟩ := id qo_4
    obtain ⟨pn40, pn41⟩ := id qn_4
    go_wp2_with fail
    (with_reducible refine (sameRun_same (undoSt ver ss st done) A2 A3 c2 c3 (undoDone ver ss st done) _ _ _ o_4 n_4).mono ?_)
    rintro e w5 ⟨rfl, hr5⟩
    have hb5 : Below w4.heap.size w4 w5 := hr5
    have st_5 := st_4.then_ hb5
    have dn_5 := dn_4.then_ hb5
    have o_5 := o_4.then_ hb5
    have n_5 := n_4.then_ hb5
    have qf_5 := qf_4.then_ hb5
    have qr_5 := qr_4.then_ hb5
    have qo_5 := qo_4.then_ hb5
    have qn_5 := qn_4.then_ hb5
    have b_5 := bthen b_4 hb5
    have z_5 := hb5.size
    clear st_4 dn_4 o_4 n_4 qf_4 qr_4 qo_4 qn_4 b_4 pf40 pf41 pr40 pr41 po40 po41 pn40 pn41 hr5 hb5
    go_wp2_with fail
    go_ret
    exact ⟨rfl, b_5⟩
  have Hcan := Lib.hid hcan
  clear hcan
  by_cases h3 : undoSt ver ss st done = 3
  · have e3 : (undoSt ver ss st done != 3) = false := by simp [h3]
    have H3 := Lib.hid h3
    clear h3
    obtain ⟨pf30, pf31⟩ := (qf_3.alloc (.cells #[.int .i64 (undoSt ver ss st done), .slice A3 (undoDone ver ss st done).length c3] 28))
    obtain ⟨pr30, pr31⟩ := (qr_3.alloc (.cells #[.int .i64 (undoSt ver ss st done), .slice A3 (undoDone ver ss st done).length c3] 28))
    obtain ⟨po30, po31⟩ := (qo_3.alloc (.cells #[.int .i64 (undoSt ver ss st done), .slice A3 (undoDone ver ss st done).length c3] 28))
    go_wp2_with fail
    (with_reducible refine (sameRun_same (undoSt ver ss st done) A2 A3 c2 c3 (undoDone ver ss st done) _ _ _ (o_3.alloc2 _) (n_3.alloc2 _)).mono ?_)
    rintro e w4 ⟨rfl, hr4⟩
    have hb4 : Below w3.heap.size w3 w4 := bthen ((Below.refl _ _).alloc (Nat.le_refl _) _) hr4
    have st_4 := st_3.then_ hb4
    have dn_4 := dn_3.then_ hb4
    have o_4 := o_3.then_ hb4
    have n_4 := n_3.then_ hb4
    have qf_4 := qf_3.then_ hb4
    have qr_4 := qr_3.then_ hb4
    have qo_4 := qo_3.then_ hb4
    have qn_4 := (Cell2.new w3 (.int .i64 (undoSt ver ss st done)) (.slice A3 (undoDone ver ss st done).length c3) 28).then_ hr4
    have b_4 := bthen b_3 hb4
    have z_4 := hb4.size
    clear st_3 dn_3 o_3 n_3 qf_3 qr_3 qo_3 b_3 pf30 pf31 pr30 pr31 po30 po31 hr4 hb4
    by_cases h0 : (undoDone ver ss st done).length = 0
    · have hb0 : (((undoDone ver ss st done).length : Int) == 0) = true := by rw [h0]; rfl
      obtain ⟨pf40, pf41⟩ := id qf_4
      obtain ⟨pr40, pr41⟩ := id qr_4
      obtain ⟨po40, po41⟩ := id qo_4
      obtain ⟨pn40, pn41⟩ := id qn_4
      go_wp2_with fail
      go_ret
      exact ⟨rfl, b_4⟩
    · have hp : 0 < (undoDone ver ss st done).length := by omega
      obtain ⟨hfb, hfu⟩ := undo_stop Hcan.out H3.out hp
      have hdl := o_4.len
      have hdc := o_4.cap
      obtain ⟨ad, rfl, had, hcell⟩ := o_4.at_ (k := (undoDone ver ss st done).length - 1) (by omega)
      generalize (undoDone ver ss st done)[(undoDone ver ss st done).length - 1]'(by omega) = nm at *
      generalize undoDone ver ss st done = ud at *
      generalize undoSt ver ss st done = us at *
      have KD : Hid (∀ wx, Below w4.drew.heap.size w4.drew wx → Calls Try.prog 17 #[flowV ver SA ss.length sc, .string nm] wx (RetFind (findSt ver ss nm) true wx)) := Lib.hid (fun wx hx => by
        have h := iFlowFind_any ver SA sc ss nm wx _ (st_4.drew.then_ hx) hss
        rw [hfb] at h
        exact h)
      generalize findSt ver ss nm = fs at *
      have Hfu := Lib.hid hfu
      clear hfb hfu
      have hb0 : ((ud.length : Int) == 0) = false := beq_eq_false_iff_ne.2 (by omega)
      have hj0 : (0 : Int) < ud.length := by omega
      have hj1 : (0 : Int) ≤ (ud.length : Int) - 1 := by omega
      have hj2 : (1 : Int) ≤ ud.length := by omega
      have hj3 : (ud.length : Int) - 1 < ud.length := by omega
      have hj4 : IntKind.i64.wrap ((ud.length : Int) - 1) = (ud.length : Int) - 1 := IntWalk.i64_in _ (by omega)
      have hj5 : ((ud.length : Int) - 1).toNat = ud.length - 1 := by omega
      have hj6 : (ud.length : Int) - 1 ≤ c2 := by omega
      obtain ⟨pf40, pf41⟩ := id qf_4
      obtain ⟨pr40, pr41⟩ := id qr_4
      obtain ⟨po40, po41⟩ := id qo_4
      obtain ⟨pn40, pn41⟩ := id qn_4
      go_upto_region 11 with fail
      go_cut [12, 13] (fun vb vo wx => CutStep w4 (.bool fs.undo) vb wx ∧ vo = .bool true)
      case first =>
        have hS : ∀ wx, Below w4.drew.heap.size w4.drew wx → (wx.cell? ⟨w1.heap.size, 0, none⟩ = some (.int .i64 ver) ∧ wx.cell? ⟨w1.heap.size, 1, none⟩ = some (.slice SA ss.length sc)) ∧ (wx.cell? ⟨w2.heap.size, 0, none⟩ = some (.int .i64 us) ∧ wx.cell? ⟨w2.heap.size, 1, none⟩ = some (.slice (some ad) ud.length c2)) ∧ wx.cell? (ad.add (ud.length - 1)) = some (.string nm) := fun wx hx =>
          have hu := Below.undrew hx
          ⟨⟨(qf_4.then_ hu).c0, (qf_4.then_ hu).c1⟩, ⟨(qo_4.then_ hu).c0, (qo_4.then_ hu).c1⟩, (hu.cell (World.block_lt_of_cell? _ _ hcell)).trans hcell⟩
        have HS := Lib.hid hS
        have t0 := Below.refl w4.drew.heap.size w4.drew
        have tA : Below w4.drew.heap.size w4.drew (w4.alloc (.cells #[.string ⟨#[]⟩, .slice none 0 0, .bool false] 36)).drew := below_drew ((Below.refl _ _).alloc (Nat.le_refl _) _)
        have bxA : SBox (w4.alloc (.cells #[.string ⟨#[]⟩, .slice none 0 0, .bool false] 36)).drew w4.heap.size (.string ⟨#[]⟩) (.slice none 0 0) (.bool false) := (SBox.new w4 _ _ _).drew
        have S0 := HS.out _ t0
        have SA0 := HS.out _ tA
        have hlow : (w1.heap.size < w4.heap.size ∧ w2.heap.size < w4.heap.size) ∧ (ad.add (ud.length - 1)).block < w4.heap.size := ⟨⟨qf_4.lt, qo_4.lt⟩, World.block_lt_of_cell? _ _ hcell⟩
        have Hlow := Lib.hid hlow
        clear hS hlow hcell
        go_region_held3 (fun wx => (wx.cell? ⟨w1.heap.size, 0, none⟩ = some (.int .i64 ver) ∧ wx.cell? ⟨w1.heap.size, 1, none⟩ = some (.slice SA ss.length sc)) ∧ (wx.cell? ⟨w2.heap.size, 0, none⟩ = some (.int .i64 us) ∧ wx.cell? ⟨w2.heap.size, 1, none⟩ = some (.slice (some ad) ud.length c2)) ∧ wx.cell? (ad.add (ud.length - 1)) = some (.string nm))
          (first
            | exact Sb | exact S0 | exact SA0
            | exact And.intro (And.intro (cell_alR Sb.1.1 _) (cell_alR Sb.1.2 _)) (And.intro (And.intro (cell_alR Sb.2.1.1 _) (cell_alR Sb.2.1.2 _)) (cell_alR Sb.2.2 _))
            | exact And.intro (And.intro (cell_stR (blk_ne Hlow.out.1.1 (Nat.le_refl _)) (cell_stR (blk_ne Hlow.out.1.1 (Nat.le_refl _)) (cell_stR (blk_ne Hlow.out.1.1 (Nat.le_refl _)) Sb.1.1))) (cell_stR (blk_ne Hlow.out.1.1 (Nat.le_refl _)) (cell_stR (blk_ne Hlow.out.1.1 (Nat.le_refl _)) (cell_stR (blk_ne Hlow.out.1.1 (Nat.le_refl _)) Sb.1.2)))) (And.intro (And.intro (cell_stR (blk_ne Hlow.out.1.2 (Nat.le_refl _)) (cell_stR (blk_ne Hlow.out.1.2 (Nat.le_refl _)) (cell_stR (blk_ne Hlow.out.1.2 (Nat.le_refl _)) Sb.2.1.1))) (cell_stR (blk_ne Hlow.out.1.2 (Nat.le_refl _)) (cell_stR (blk_ne Hlow.out.1.2 (Nat.le_refl _)) (cell_stR (blk_ne Hlow.out.1.2 (Nat.le_refl _)) Sb.2.1.2)))) (cell_stR (farb_ne Hlow.out.2 (Nat.le_refl _)) (cell_stR (farb_ne Hlow.out.2 (Nat.le_refl _)) (cell_stR (farb_ne Hlow.out.2 (Nat.le_refl _)) Sb.2.2)))))
          (first
            | (go_at_call 17; (with_reducible refine (KD.out _ tA).mono ?_); rintro e wb ⟨A7, c7, rfl, ho7, hbb⟩; have tb := bthen tA hbb; have bl := bxA.lt; have bx := bxA.then_ hbb; have bf := fun i => bx.free i; obtain ⟨bc0, bc1, bc2⟩ := bx.cells; have Sb := HS.out _ tb)
            | (go_at_call 17; (with_reducible refine (KD.out _ t0).mono ?_); rintro e wb ⟨A7, c7, rfl, ho7, hbb⟩; have tb := bthen t0 hbb; have Sb := HS.out _ tb))
        all_goals
          go_wp2_with fail
          go_meet
          first
            | exact ⟨cut_step_early (Below.undrew tb) bx (Nat.le_refl _), rfl⟩
            | exact ⟨cut_step_last (Below.undrew tb), rfl⟩
      case rest =>
        obtain ⟨w6, rfl⟩ : ∃ w6 : World, w6 = wc := ⟨_, rfl⟩
        obtain ⟨⟨b, rfl, bc2, lb, hb6⟩, rfl⟩ := hcut
        rw [Hfu.out] at bc2
        clear hcell
        go_wp2_with fail
        go_ret
        exact ⟨rfl, bthen b_4 hb6⟩
  · have e3 : (undoSt ver ss st done != 3) = true := by rw [bne_iff_ne]; exact h3
    clear h3
    obtain ⟨pf30, pf31⟩ := (qf_3.alloc (.cells #[.int .i64 (undoSt ver ss st done), .slice A3 (undoDone ver ss st done).length c3] 28))
    obtain ⟨pr30, pr31⟩ := (qr_3.alloc (.cells #[.int .i64 (undoSt ver ss st done), .slice A3 (undoDone ver ss st done).length c3] 28))
    obtain ⟨po30, po31⟩ := (qo_3.alloc (.cells #[.int .i64 (undoSt ver ss st done), .slice A3 (undoDone ver ss st done).length c3] 28))
    go_wp2_with fail
    (with_reducible refine (sameRun_same (undoSt ver ss st done) A2 A3 c2 c3 (undoDone ver ss st done) _ _ _ (o_3.alloc2 _) (n_3.alloc2 _)).mono ?_)
    rintro e w4 ⟨rfl, hr4⟩
    have hb4 : Below w3.heap.size w3 w4 := bthen ((Below.refl _ _).alloc (Nat.le_refl _) _) hr4
    have st_4 := st_3.then_ hb4
    have dn_4 := dn_3.then_ hb4
    have o_4 := o_3.then_ hb4
    have n_4 := n_3.then_ hb4
    have qf_4 := qf_3.then_ hb4
    have qr_4 := qr_3.then_ hb4
    have qo_4 := qo_3.then_ hb4
    have qn_4 := (Cell2.new w3 (.int .i64 (undoSt ver ss st done)) (.slice A3 (undoDone ver ss st done).length c3) 28).then_ hr4
    have b_4 := bthen b_3 hb4
    have z_4 := hb4.size
    clear st_3 dn_3 o_3 n_3 qf_3 qr_3 qo_3 b_3 pf30 pf31 pr30 pr31 po30 po31 hr4 hb4
    obtain ⟨pf40, pf41⟩ := id qf_4
    obtain ⟨pr40, pr41⟩ := id qr_4
    obtain ⟨po40, po41⟩ := id qo_4
    obtain ⟨pn40, pn41⟩ := id qn_4
    go_wp2_with fail
    (with_reducible refine (sameRun_same (undoSt ver ss st done) A2 A3 c2 c3 (undoDone ver ss st done) _ _ _ o_4 n_4).mono ?_)
    rintro e w5 ⟨rfl, hr5⟩
    have hb5 : Below w4.heap.size w4 w5 := hr5
    have st_5 := st_4.then_ hb5
    have dn_5 := dn_4.then_ hb5
    have o_5 := o_4.then_ hb5
    have n_5 := n_4.then_ hb5
    have qf_5 := qf_4.then_ hb5
    have qr_5 := qr_4.then_ hb5
    have qo_5 := qo_4.then_ hb5
    have qn_5 := qn_4.then_ hb5
    have b_5 := bthen b_4 hb5
    have z_5 := hb5.size
    clear st_4 dn_4 o_4 n_4 qf_4 qr_4 qo_4 qn_4 b_4 pf40 pf41 pr40 pr41 po40 po41 pn40 pn41 hr5 hb5
    go_wp2_with fail
    go_ret
    exact ⟨rfl, b_5⟩

set_option maxRecDepth 100000 in
theorem fnUndoStop_lifted (os : Os) (started : os.Started) (H : Type) (enc : TypeId × Value → H) :
    ReturnsInHanded {} Try.checked os 5 .any (Rows.fnUndoStopSpec.pre6 enc Try.prog Try.f5 Rows.fnUndoStopRow.domain false) (Rows.fnUndoStopSpec.post enc Try.prog Try.f5 false true false false) := by
  refine returnsInHanded_of_change (C := Try.checked) own started (by kernel_rfl) Try.func5
    (ChangeSpec.witness6 (enc := enc) (C := Try.checked) false ⟨#[], #[.slice none 0 0], []⟩ 8 (by kernel_rfl) (by kernel_rfl) (by kernel_rfl) (by kernel_rfl)) ?_
  intro W base args ds gs before hval0 hW _ _
  have hval : ∀ (j : Nat) t v, Try.f5.params[j]? = some t → args[j]? = some v → Value.okWide Try.prog W .any base t v := hval0
  obtain ⟨p, q, hA0, hV, _⟩ := id hW
  have hA : DataW.TrodAll enc Try.prog W 0 (fun _ => true) true Try.f5.params.toList args.toList ds p := hA0
  rw [Try.params5] at hA hval
  obtain ⟨v0, d0, rfl, rfl, h0⟩ := trodAll_one hA
  obtain ⟨rfl, rfl⟩ := trodVars_none hV
  refine (undoStop_law W v0 (arg_code (hval 0 _ v0 rfl rfl) h0)).mono fun e W' ⟨he, hw⟩ => ?_
  subst he
  exact ⟨_, rfl, law_post laidOut (readable_of (by kernel_rfl)) rfl Try.underlying4 rfl rfl rfl rfl hW hw⟩

theorem fnUndoStop_holds : Rows.FnUndoStopSaid :=
  OpenClaim.holds_of_wide 5 Try.f5 rfl rfl rfl rfl rfl rfl rfl ⟨rfl, rfl, rfl, rfl, rfl⟩ rfl rfl rfl rfl rfl (by kernel_rfl) Try.func5 (by kernel_rfl)
    (of_decide_eq_true (by kernel_rfl)) (by unfold Func.isWrapper; rw [if_neg (of_decide_eq_false (by kernel_rfl))]; exact ⟨rfl, rfl⟩)
    (fun os started H enc _ => fnUndoStop_lifted os started H enc)

end Go.Proofs.Ytnekjmpmjadmhaa
