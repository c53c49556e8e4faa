/- FnDoAll returns true for every code. No condition. -/
import Derived.Test.YtcammncomeiciaaArgs
import Derived.Test.YtcammncomeiciaaRunLaws
import Derived.Test.YtcammncomeiciaaRunFns
import Derived.Test.YtcammncomeiciaaFlowFns
import Derived.Test.YtcammncomeiciaaTexts
import Derived.Test.YtcammncomeiciaaRunTexts
import Derived.Test.YtcammncomeiciaaDrawFlows
import Derived.Test.YtcammncomeiciaaExactBox
namespace Go.Proofs.Ytcammncomeiciaa
set_option linter.unusedVariables false
open Go.ChangeShapes Go.WideShapes Go.ChangeAt Go.RowKit

set_option maxHeartbeats 8000000 in
theorem doAll_law (W : World) (v : Value) (h : IsCode W v) : Calls Try.prog 11 #[v] W fun e W' => e = .returned (.bool true) ∧ Below W.heap.size W W' := by
  obtain ⟨A, c, zs, rfl, hz⟩ := h
  have hl := hz.len
  have hc := hz.cap
  by_cases h20 : 1048576 < zs.length
  · go_enter Try.func11, Try.ntmps11
    go_wp2
    go_ret
    exact ⟨rfl, Below.refl _ _⟩
  go_enter Try.func11, Try.ntmps11
  go_wp2_with fail
  (with_reducible refine (drawRunNew_any A c zs W hz).mono ?_)
  rintro e w1 ⟨ver, SA, sc, ss, rfl, hst, h1, h6, hsm, b_1⟩
  clear hsm
  have st_1 := hst
  clear hst
  have hss : ss.length ≤ 2000000 := by omega
  go_wp2_with fail
  (with_reducible refine (iRunNew_any ver SA sc ss _ _ (st_1.alloc2 _)).mono ?_)
  rintro e w2 ⟨A2, c2, rfl, ho2, hr2⟩
  have hb2 : Below w1.heap.size w1 w2 := bthen ((Below.refl _ _).alloc (Nat.le_refl _) _) hr2
  have st_2 := st_1.then_ hb2
  have qf_2 := (Cell2.new w1 (.int .i64 ver) (.slice SA ss.length sc) 25).then_ hr2
  have b_2 := bthen b_1 hb2
  have z_2 := hb2.size
  clear st_1 b_1 hr2 hb2
  have o_2 := ho2.strs
  clear ho2
  obtain ⟨pf20, pf21⟩ := (qf_2.alloc (.cells #[.int .i64 0, .slice A2 noNames.length c2] 47))
  go_wp2_with fail
  (with_reducible refine (sRunNew_any ver SA sc ss _ _ (st_2.alloc2 _) (by omega)).mono ?_)
  rintro e w3 ⟨A3, c3, rfl, ho3, hr3⟩
  have hb3 : Below w2.heap.size w2 w3 := bthen ((Below.refl _ _).alloc (Nat.le_refl _) _) hr3
  have st_3 := st_2.then_ hb3
  have o_3 := o_2.then_ hb3
  have qf_3 := qf_2.then_ hb3
  have qo_3 := (Cell2.new w2 (.int .i64 0) (.slice A2 noNames.length c2) 47).then_ hr3
  have b_3 := bthen b_2 hb3
  have z_3 := hb3.size
  clear st_2 o_2 qf_2 b_2 pf20 pf21 hr3 hb3
  have n_3 := ho3.strs
  clear ho3
  cases hok : flowOk ver ss
  · clear hok
    obtain ⟨pf30, pf31⟩ := (qf_3.alloc (.cells #[.int .i64 0, .slice A3 noNames.length c3] 47))
    obtain ⟨po30, po31⟩ := (qo_3.alloc (.cells #[.int .i64 0, .slice A3 noNames.length c3] 47))
    go_wp2_with fail
    (with_reducible refine (sameRun_same 0 A2 A3 c2 c3 noNames _ _ _ (o_3.alloc2 _) (n_3.alloc2 _)).mono ?_)
    rintro e w4 ⟨rfl, hr4⟩
    have hb4 : Below w3.heap.size w3 w4 := bthen ((Below.refl _ _).alloc (Nat.le_refl _) _) hr4
    have st_4 := st_3.then_ hb4
    have o_4 := o_3.then_ hb4
    have n_4 := n_3.then_ hb4
    have qf_4 := qf_3.then_ hb4
    have qo_4 := qo_3.then_ hb4
    have qn_4 := (Cell2.new w3 (.int .i64 0) (.slice A3 noNames.length c3) 47).then_ hr4
    have b_4 := bthen b_3 hb4
    have z_4 := hb4.size
    clear st_3 o_3 n_3 qf_3 qo_3 b_3 pf30 pf31 po30 po31 hr4 hb4
    obtain ⟨pf40, pf41⟩ := id qf_4
    obtain ⟨po40, po41⟩ := id qo_4
    obtain ⟨pn40, pn41⟩ := id qn_4
    go_wp2_with fail
    (with_reducible refine (sameRun_same 0 A2 A3 c2 c3 noNames _ _ _ o_4 n_4).mono ?_)
    rintro e w5 ⟨rfl, hr5⟩
    have hb5 : Below w4.heap.size w4 w5 := hr5
    have st_5 := st_4.then_ hb5
    have o_5 := o_4.then_ hb5
    have n_5 := n_4.then_ hb5
    have qf_5 := qf_4.then_ hb5
    have qo_5 := qo_4.then_ hb5
    have qn_5 := qn_4.then_ hb5
    have b_5 := bthen b_4 hb5
    have z_5 := hb5.size
    clear st_4 o_4 n_4 qf_4 qo_4 qn_4 b_4 pf40 pf41 po40 po41 pn40 pn41 hr5 hb5
    go_wp2_with fail
    go_ret
    exact ⟨rfl, b_5⟩
  have Hok := Lib.hid hok
  clear hok
  obtain ⟨pf30, pf31⟩ := (qf_3.alloc (.cells #[.int .i64 0, .slice A3 noNames.length c3] 47))
  obtain ⟨po30, po31⟩ := (qo_3.alloc (.cells #[.int .i64 0, .slice A3 noNames.length c3] 47))
  go_wp2_with fail
  (with_reducible refine (sameRun_same 0 A2 A3 c2 c3 noNames _ _ _ (o_3.alloc2 _) (n_3.alloc2 _)).mono ?_)
  rintro e w4 ⟨rfl, hr4⟩
  have hb4 : Below w3.heap.size w3 w4 := bthen ((Below.refl _ _).alloc (Nat.le_refl _) _) hr4
  have st_4 := st_3.then_ hb4
  have o_4 := o_3.then_ hb4
  have n_4 := n_3.then_ hb4
  have qf_4 := qf_3.then_ hb4
  have qo_4 := qo_3.then_ hb4
  have qn_4 := (Cell2.new w3 (.int .i64 0) (.slice A3 noNames.length c3) 47).then_ hr4
  have b_4 := bthen b_3 hb4
  have z_4 := hb4.size
  clear st_3 o_3 n_3 qf_3 qo_3 b_3 pf30 pf31 po30 po31 hr4 hb4
  clear n_4
  clear qn_4
  obtain ⟨pf40, pf41⟩ := id qf_4
  obtain ⟨po40, po41⟩ := id qo_4
  have hlf := qf_4.lt
  have hlo := qo_4.lt
  have H0 : forthSt ss ((ord ss).take 0) = 0 := by
    by_cases hz : 0 < (ord ss).length
    · exact ord_forth Hok.out hz
    · have := (flowOk_iff.1 Hok.out).2.2.2.2.2.2; omega
  go_wp2_with fail
  (with_reducible refine (iFlowOrder_any ver SA sc ss _ _ (st_4.alloc2 _) hss).mono ?_)
  rintro e w5 ⟨A5, c5, rfl, ho5, hr5⟩
  have hb5 : Below w4.heap.size w4 w5 := bthen ((Below.refl _ _).alloc (Nat.le_refl _) _) hr5
  have rx0 := (RBox.new w4 (.int .i64 0) (.slice A2 noNames.length c2)).then_ hr5
  have hs4 : (w4.alloc (.cells #[.int .i64 0, .slice A2 noNames.length c2] 47)).heap.size = w4.heap.size + 1 := by simp
  rw [hs4] at ho5
  rw [orderOut_yes Hok.out] at ho5 ⊢
  clear hs4 hr5 pf40 pf41 po40 po41
  have hol := ho5.strs.len
  have hoc := ho5.strs.cap
  have hon := ordN_length_le ss ss.length
  have hon2 : (ord ss).length ≤ 6 := by unfold ord; omega
  clear hon
  have R0 : ∃ (D : Option Addr) (d : Nat) (cu : List ByteArray), Hid (cu = (ord ss).take 0) ∧ RBox w5 w4.heap.size (.int .i64 (forthSt ss cu)) (.slice D cu.length d) ∧ (Strs w5 w4.heap.size D d cu ∨ OwnStrs w5 (w4.heap.size + 1) D d cu) :=
    ⟨A2, c2, noNames, Lib.hid rfl, by rw [show forthSt ss noNames = 0 from H0]; exact rx0, .inl (o_4.then_ hb5)⟩
  clear H0 rx0
  go_wp2_with fail
  go_loopw [10] (fun i wr => ∃ (k : Nat) (D : Option Addr) (d : Nat) (cu : List ByteArray), k ≤ (ord ss).length ∧ i = .int .i64 k ∧ Hid (cu = (ord ss).take k) ∧ Below w4.heap.size w4 wr ∧ OwnStrs wr (w4.heap.size + 1) A5 c5 (ord ss) ∧ RBox wr w4.heap.size (.int .i64 (forthSt ss cu)) (.slice D cu.length d) ∧ (Strs wr w4.heap.size D d cu ∨ OwnStrs wr (w4.heap.size + 1) D d cu)) (fun i _ => (ord ss).length - (intOf i).toNat)
  case atStart =>
    obtain ⟨D, d, cu, r0, r1, r2⟩ := R0
    exact ⟨0, D, d, cu, Nat.zero_le _, rfl, r0, hb5, ho5, r1, r2⟩
  case round =>
    clear R0 ho5 hb5
    obtain ⟨k, D, d, cu, hk, rfl, hcu, hb, ho, rx, hD0⟩ := hrel
    have hD : Strs wr wr.heap.size D d cu := hD0.elim (fun h => h.fit) (fun h => h.strs)
    have qf := qf_4.then_ hb
    have st := st_4.then_ hb
    have hxl := rx.lt
    have hbW := bthen b_4 hb
    by_cases hlt : k < (ord ss).length
    · have hcan := ord_can Hok.out hlt
      obtain ⟨hdo1, hdo2⟩ := ord_do Hok.out hlt
      have hfs := ord_forth Hok.out hlt
      rw [← hcu.out] at hcan hdo1 hdo2 hfs
      obtain ⟨nx, hnx⟩ : ∃ nx, nx = (ord ss).take (k + 1) := ⟨_, rfl⟩
      rw [← hnx] at hdo1 hdo2
      have Hnx := Lib.hid hnx
      rw [hfs] at rx
      clear hnx
      obtain ⟨ad, rfl, had, hcell⟩ := ho.strs.at_ hlt
      have hns := ho.strs.lens k hlt
      have hadl := (own_lt ho).1
      have hi0 : (0 : Int) ≤ k := by omega
      have hi1 : (k : Int) < (ord ss).length := by omega
      have KD : Hid (∀ wx, Below wr.drew.heap.size wr.drew wx → Calls Try.prog 36 #[flowV ver SA ss.length sc, runV 0 D cu.length d, .string (ord ss)[k]] wx (RetRun (forthSt ss nx) nx true wx)) := fun wx hx => by
        have h := iRunDo_any ver 0 SA D sc d ss cu (ord ss)[k] wx _ _ (st.drew.then_ hx) (hD.drew.then_ hx) hns hss
        rw [hdo1, hdo2, hcan] at h
        exact h
      clear hcan hdo1 hdo2 hfs
      go_upto_region 13 with fail
      go_cut [11, 12] (fun vb vo wx => CutRun wr (forthSt ss nx) nx wr.heap.size vb wx ∧ vo = .bool true)
      case first =>
        have xc := rx.cells
        have hS : ∀ wx, Below wr.drew.heap.size wr.drew wx → (wx.cell? ⟨w1.heap.size, 0, none⟩ = some (.int .i64 ver) ∧ wx.cell? ⟨w1.heap.size, 1, none⟩ = some (.slice SA ss.length sc)) ∧ (wx.cell? ⟨w4.heap.size, 0, none⟩ = some (.int .i64 0) ∧ wx.cell? ⟨w4.heap.size, 1, none⟩ = some (.slice D cu.length d)) ∧ wx.cell? (ad.add k) = some (.string (ord ss)[k]) := fun wx hx =>
          have hu := Below.undrew hx
          ⟨⟨(qf.then_ hu).c0, (qf.then_ hu).c1⟩, (rx.then_ hu).cells, (hu.cell (World.block_lt_of_cell? _ _ hcell)).trans hcell⟩
        have HS := Lib.hid hS
        have t0 := Below.refl wr.drew.heap.size wr.drew
        have tA : Below wr.drew.heap.size wr.drew (wr.alloc (.cells #[.int .i64 0, .slice none 0 0] 47)).drew := below_drew ((Below.refl _ _).alloc (Nat.le_refl _) _)
        have bxA : RBox (wr.alloc (.cells #[.int .i64 0, .slice none 0 0] 47)).drew wr.heap.size (.int .i64 0) (.slice none 0 0) := (RBox.new wr _ _).drew
        have S0 := HS.out _ t0
        have SA0 := HS.out _ tA
        have hlow : (w1.heap.size < wr.heap.size ∧ w4.heap.size < wr.heap.size) ∧ (ad.add k).block < wr.heap.size := ⟨⟨qf.lt, hxl⟩, by rw [block_of_add]; exact had⟩
        have Hlow := Lib.hid hlow
        clear hS hlow hcell xc
        go_region_held3 (fun wx => (wx.cell? ⟨w1.heap.size, 0, none⟩ = some (.int .i64 ver) ∧ wx.cell? ⟨w1.heap.size, 1, none⟩ = some (.slice SA ss.length sc)) ∧ (wx.cell? ⟨w4.heap.size, 0, none⟩ = some (.int .i64 0) ∧ wx.cell? ⟨w4.heap.size, 1, none⟩ = some (.slice D cu.length d)) ∧ wx.cell? (ad.add k) = some (.string (ord ss)[k]))
          (first
            | exact Sb | exact S0 | exact SA0
            | exact And.intro (And.intro (cell_alR Sb.1.1 _) (cell_alR Sb.1.2 _)) (And.intro (And.intro (cell_alR Sb.2.1.1 _) (cell_alR Sb.2.1.2 _)) (cell_alR Sb.2.2 _))
            | exact And.intro (And.intro (cell_stR (blk_ne Hlow.out.1.1 (Nat.le_refl _)) (cell_stR (blk_ne Hlow.out.1.1 (Nat.le_refl _)) Sb.1.1)) (cell_stR (blk_ne Hlow.out.1.1 (Nat.le_refl _)) (cell_stR (blk_ne Hlow.out.1.1 (Nat.le_refl _)) Sb.1.2))) (And.intro (And.intro (cell_stR (blk_ne Hlow.out.1.2 (Nat.le_refl _)) (cell_stR (blk_ne Hlow.out.1.2 (Nat.le_refl _)) Sb.2.1.1)) (cell_stR (blk_ne Hlow.out.1.2 (Nat.le_refl _)) (cell_stR (blk_ne Hlow.out.1.2 (Nat.le_refl _)) Sb.2.1.2))) (cell_stR (farb_ne Hlow.out.2 (Nat.le_refl _)) (cell_stR (farb_ne Hlow.out.2 (Nat.le_refl _)) Sb.2.2))))
          (first
            | (go_at_call 36; (with_reducible refine (KD.out _ tA).mono ?_); rintro e wb ⟨A7, c7, rfl, ho7, hbb⟩; have tb := bthen tA hbb; have bl := bxA.lt; have bx := bxA.then_ hbb; have bf := fun i => bx.free i; obtain ⟨bc0, bc1⟩ := bx.cells; have Sb := HS.out _ tb)
            | (go_at_call 36; (with_reducible refine (KD.out _ t0).mono ?_); rintro e wb ⟨A7, c7, rfl, ho7, hbb⟩; have tb := bthen t0 hbb; have Sb := HS.out _ tb))
        all_goals
          go_wp2_with fail
          go_meet
          first
            | exact ⟨cut_early (Below.undrew tb) bx (Nat.le_refl _) (Nat.le_refl _) ho7 bl, rfl⟩
            | exact ⟨cut_last (Below.undrew tb) ho7 (Nat.le_refl _) (Below.undrew tb).size, rfl⟩
      case rest =>
        obtain ⟨w6, rfl⟩ : ∃ w6 : World, w6 = wc := ⟨_, rfl⟩
        obtain ⟨⟨b, A7, c7, rfl, qb, hβ, lb, ho7, hn7, hb6⟩, rfl⟩ := hcut
        have rx6 := rx.then_ hb6
        obtain ⟨b0, b1⟩ := qb
        obtain ⟨x0, x1⟩ := rx6.cells
        have xf := fun i => rx6.free i
        have hz6 := hb6.size
        have ho6 := ho.below hb6
        have hbN := (hb.trans (hb6.mono (by omega)))
        have rN := (rx6.set0 (.int .i64 (forthSt ss nx))).set1 (.slice A7 nx.length c7)
        clear hcell
        go_wp2_with fail
        go_roundw
        case rel =>
          refine ⟨k + 1, A7, c7, nx, by omega, by go_num, Hnx, (hbN.setCell (Nat.le_refl _) _).setCell (by show w4.heap.size ≤ w4.heap.size; omega) _, ?_, rN, .inr ?_⟩
          · exact (ho6.setLow (a := ⟨w4.heap.size, 0, none⟩) (by show w4.heap.size < w4.heap.size + 1; omega) _).setLow (a := ⟨w4.heap.size, 1, none⟩) (by show w4.heap.size < w4.heap.size + 1; omega) _
          · exact ((ho7.setLow (a := ⟨w4.heap.size, 0, none⟩) hxl _).setLow (a := ⟨w4.heap.size, 1, none⟩) hxl _).base_ (by omega)
        case measure => simp [intOf]; omega
    · have hke : k = (ord ss).length := by omega
      subst hke
      have hfe := ord_forth_end Hok.out
      have hcu2 := hcu.out
      rw [List.take_length] at hcu2 hfe
      subst hcu2
      rw [hfe] at rx
      obtain ⟨x0, x1⟩ := rx.cells
      clear hfe hD0
      go_wp2_with fail
      (with_reducible refine (sameTexts_same D A5 d c5 (ord ss) _ _ _ hD ho.strs).mono ?_)
      rintro e w6 ⟨rfl, hb6⟩
      go_wp2_with fail
      go_ret
      exact ⟨rfl, bthen hbW hb6⟩

set_option maxRecDepth 100000 in
theorem fnDoAll_lifted (os : Os) (started : os.Started) (H : Type) (enc : TypeId × Value → H) :
    ReturnsInHanded {} Try.checked os 11 .any (Rows.fnDoAllSpec.pre6 enc Try.prog Try.f11 Rows.fnDoAllRow.domain false) (Rows.fnDoAllSpec.post enc Try.prog Try.f11 false true false false) := by
  refine returnsInHanded_of_change (C := Try.checked) own started (by kernel_rfl) Try.func11
    (ChangeSpec.witness6 (enc := enc) (C := Try.checked) false ⟨#[], #[.slice none 0 0], []⟩ 8 (by kernel_rfl) (by kernel_rfl) (by kernel_rfl) (by kernel_rfl)) ?_
  intro W base args ds gs before hval0 hW _ _
  have hval : ∀ (j : Nat) t v, Try.f11.params[j]? = some t → args[j]? = some v → Value.okWide Try.prog W .any base t v := hval0
  obtain ⟨p, q, hA0, hV, _⟩ := id hW
  have hA : DataW.TrodAll enc Try.prog W 0 (fun _ => true) true Try.f11.params.toList args.toList ds p := hA0
  rw [Try.params11] at hA hval
  obtain ⟨v0, d0, rfl, rfl, h0⟩ := trodAll_one hA
  obtain ⟨rfl, rfl⟩ := trodVars_none hV
  refine (doAll_law W v0 (arg_code (hval 0 _ v0 rfl rfl) h0)).mono fun e W' ⟨he, hw⟩ => ?_
  subst he
  exact ⟨_, rfl, law_post laidOut (readable_of (by kernel_rfl)) rfl Try.underlying4 rfl rfl rfl rfl hW hw⟩

theorem fnDoAll_holds : Rows.FnDoAllSaid :=
  OpenClaim.holds_of_wide 11 Try.f11 rfl rfl rfl rfl rfl rfl rfl ⟨rfl, rfl, rfl, rfl, rfl⟩ rfl rfl rfl rfl rfl (by kernel_rfl) Try.func11 (by kernel_rfl)
    (of_decide_eq_true (by kernel_rfl)) (by unfold Func.isWrapper; rw [if_neg (of_decide_eq_false (by kernel_rfl))]; exact ⟨rfl, rfl⟩)
    (fun os started H enc _ => fnDoAll_lifted os started H enc)

end Go.Proofs.Ytcammncomeiciaa
