/- FnUndoAll returns true for every code. No condition. -/
import Derived.Test.YtnekjmpmjadmhaaArgs
import Derived.Test.YtnekjmpmjadmhaaRunLaws
import Derived.Test.YtnekjmpmjadmhaaRunFns
import Derived.Test.YtnekjmpmjadmhaaSpecRunFns
import Derived.Test.YtnekjmpmjadmhaaFlowFns
import Derived.Test.YtnekjmpmjadmhaaTexts
import Derived.Test.YtnekjmpmjadmhaaRunTexts
import Derived.Test.YtnekjmpmjadmhaaDrawRuns
import Derived.Test.YtnekjmpmjadmhaaDrawUndo
import Derived.Test.YtnekjmpmjadmhaaUndoLaws
namespace Go.Proofs.Ytnekjmpmjadmhaa
set_option linter.unusedVariables false
set_option maxRecDepth 100000
open Go.ChangeShapes Go.WideShapes Go.ChangeAt Go.RowKit

set_option maxHeartbeats 8000000 in
theorem undoAll_law (W : World) (v : Value) (h : IsCode W v) : Calls Try.prog 3 #[v] W fun e W' => e = .returned (.bool true) ∧ Below W.heap.size W W' := by
  obtain ⟨A, c, zs, rfl, hz⟩ := h
  have hl := hz.len
  have hc := hz.cap
  by_cases h20 : 1048576 < zs.length
  · go_enter Try.func3, Try.ntmps3
    go_wp2
    go_ret
    exact ⟨rfl, Below.refl _ _⟩
  go_enter Try.func3, Try.ntmps3
  go_wp2_with fail
  (with_reducible refine (drawRunUndo_any A c zs W hz).mono ?_)
  rintro e w1 ⟨ver, SA, sc, ss, st, D, d, done, rfl, hT, b_1⟩
  have hst := hT.sts
  have hdn := hT.strs
  have h1 := hT.one
  have h6 := hT.six
  have hl7 := hT.len
  have hss : ss.length ≤ 2000000 := by omega
  clear hT
  have st_1 := hst
  have dn_1 := hdn
  clear hst hdn
  go_wp2_with fail
  (with_reducible refine (iRunUndo_any ver st SA D sc d ss done _ _ _ ((st_1.alloc2 _).alloc2 _) ((dn_1.alloc2 _).alloc2 _) hss).mono ?_)
  rintro e w2 ⟨A2, c2, rfl, ho2, hr2⟩
  have hb2 : Below w1.heap.size w1 w2 := bthen (((Below.refl _ _).alloc (Nat.le_refl _) _).alloc (by simp) _) hr2
  have st_2 := st_1.then_ hb2
  have dn_2 := dn_1.then_ hb2
  have qf_2 := ((Cell2.new w1 (.int .i64 ver) (.slice SA ss.length sc) 25).alloc (.cells #[.int .i64 st, .slice D done.length d] 28)).then_ hr2
  have qr_2 : Cell2 w2 (w1.heap.size + 1) (.int .i64 st) (.slice D done.length d) := by have := (Cell2.new (w1.alloc (.cells #[.int .i64 ver, .slice SA ss.length sc] 25)) (.int .i64 st) (.slice D done.length d) 28).then_ hr2; simpa using this
  have b_2 := bthen b_1 hb2
  have z_2 := hb2.size
  clear st_1 dn_1 b_1 hr2 hb2
  have o_2 := ho2.strs
  clear ho2
  obtain ⟨pf20, pf21⟩ := (qf_2.alloc (.cells #[.int .i64 (undoSt ver ss st done), .slice A2 (undoDone ver ss st done).length c2] 28))
  obtain ⟨pr20, pr21⟩ := (qr_2.alloc (.cells #[.int .i64 (undoSt ver ss st done), .slice A2 (undoDone ver ss st done).length c2] 28))
  go_wp2_with fail
  (with_reducible refine (sRunUndo_any ver st SA D sc d ss done _ _ _ (st_2.alloc2 _) (dn_2.alloc2 _) hss).mono ?_)
  rintro e w3 ⟨A3, c3, rfl, ho3, hr3⟩
  have hb3 : Below w2.heap.size w2 w3 := bthen ((Below.refl _ _).alloc (Nat.le_refl _) _) hr3
  have st_3 := st_2.then_ hb3
  have dn_3 := dn_2.then_ hb3
  have o_3 := o_2.then_ hb3
  have qf_3 := qf_2.then_ hb3
  have qr_3 := qr_2.then_ hb3
  have qo_3 := (Cell2.new w2 (.int .i64 (undoSt ver ss st done)) (.slice A2 (undoDone ver ss st done).length c2) 28).then_ hr3
  have b_3 := bthen b_2 hb3
  have z_3 := hb3.size
  clear st_2 dn_2 o_2 qf_2 qr_2 b_2 pf20 pf21 pr20 pr21 hr3 hb3
  have n_3 := ho3.strs
  clear ho3
  have hne : ((undoName ver ss st done).toList != (undoName ver ss st done).toList) = false := by simp
  have heq : ((undoName ver ss st done).toList == (undoName ver ss st done).toList) = true := by simp
  cases hcan : undoB ver ss st done
  · clear hcan
    obtain ⟨pf30, pf31⟩ := (qf_3.alloc (.cells #[.int .i64 (undoSt ver ss st done), .slice A3 (undoDone ver ss st done).length c3] 28))
    obtain ⟨pr30, pr31⟩ := (qr_3.alloc (.cells #[.int .i64 (undoSt ver ss st done), .slice A3 (undoDone ver ss st done).length c3] 28))
    obtain ⟨po30, po31⟩ := (qo_3.alloc (.cells #[.int .i64 (undoSt ver ss st done), .slice A3 (undoDone ver ss st done).length c3] 28))
    go_wp2_with fail
    (with_reducible refine (sameRun_same (undoSt ver ss st done) A2 A3 c2 c3 (undoDone ver ss st done) _ _ _ (o_3.alloc2 _) (n_3.alloc2 _)).mono ?_)
    rintro e w4 ⟨rfl, hr4⟩
    have hb4 : Below w3.heap.size w3 w4 := bthen ((Below.refl _ _).alloc (Nat.le_refl _) _) hr4
    have st_4 := st_3.then_ hb4
    have dn_4 := dn_3.then_ hb4
    have o_4 := o_3.then_ hb4
    have n_4 := n_3.then_ hb4
    have qf_4 := qf_3.then_ hb4
    have qr_4 := qr_3.then_ hb4
    have qo_4 := qo_3.then_ hb4
    have qn_4 := (Cell2.new w3 (.int .i64 (undoSt ver ss st done)) (.slice A3 (undoDone ver ss st done).length c3) 28).then_ hr4
    have b_4 := bthen b_3 hb4
    have z_4 := hb4.size
    clear st_3 dn_3 o_3 n_3 qf_3 qr_3 qo_3 b_3 pf30 pf31 pr30 pr31 po30 po31 hr4 hb4
    obtain ⟨pf40, pf41⟩ := id qf_4
    obtain ⟨pr40, pr41⟩ := id qr_4
    obtain ⟨po40, po41⟩ := id qo_4
    obtain ⟨pn40, pn41⟩ := id qn_4
    go_wp2_with fail
    (with_reducible refine (sameRun_same (undoSt ver ss st done) A2 A3 c2 c3 (undoDone ver ss st done) _ _ _ o_4 n_4).mono ?_)
    rintro e w5 ⟨rfl, hr5⟩
    have hb5 : Below w4.heap.size w4 w5 := hr5
    have st_5 := st_4.then_ hb5
    have dn_5 := dn_4.then_ hb5
    have o_5 := o_4.then_ hb5
    have n_5 := n_4.then_ hb5
    have qf_5 := qf_4.then_ hb5
    have qr_5 := qr_4.then_ hb5
    have qo_5 := qo_4.then_ hb5
    have qn_5 := qn_4.then_ hb5
    have b_5 := bthen b_4 hb5
    have z_5 := hb5.size
    clear st_4 dn_4 o_4 n_4 qf_4 qr_4 qo_4 qn_4 b_4 pf40 pf41 pr40 pr41 po40 po41 pn40 pn41 hr5 hb5
    go_wp2_with fail
    go_ret
    exact ⟨rfl, b_5⟩
  have Hcan := Lib.hid hcan
  clear hcan
  obtain ⟨pf30, pf31⟩ := (qf_3.alloc (.cells #[.int .i64 (undoSt ver ss st done), .slice A3 (undoDone ver ss st done).length c3] 28))
  obtain ⟨pr30, pr31⟩ := (qr_3.alloc (.cells #[.int .i64 (undoSt ver ss st done), .slice A3 (undoDone ver ss st done).length c3] 28))
  obtain ⟨po30, po31⟩ := (qo_3.alloc (.cells #[.int .i64 (undoSt ver ss st done), .slice A3 (undoDone ver ss st done).length c3] 28))
  go_wp2_with fail
  (with_reducible refine (sameRun_same (undoSt ver ss st done) A2 A3 c2 c3 (undoDone ver ss st done) _ _ _ (o_3.alloc2 _) (n_3.alloc2 _)).mono ?_)
  rintro e w4 ⟨rfl, hr4⟩
  have hb4 : Below w3.heap.size w3 w4 := bthen ((Below.refl _ _).alloc (Nat.le_refl _) _) hr4
  have st_4 := st_3.then_ hb4
  have dn_4 := dn_3.then_ hb4
  have o_4 := o_3.then_ hb4
  have n_4 := n_3.then_ hb4
  have qf_4 := qf_3.then_ hb4
  have qr_4 := qr_3.then_ hb4
  have qo_4 := qo_3.then_ hb4
  have qn_4 := (Cell2.new w3 (.int .i64 (undoSt ver ss st done)) (.slice A3 (undoDone ver ss st done).length c3) 28).then_ hr4
  have b_4 := bthen b_3 hb4
  have z_4 := hb4.size
  clear st_3 dn_3 o_3 n_3 qf_3 qr_3 qo_3 b_3 pf30 pf31 pr30 pr31 po30 po31 hr4 hb4
  clear n_4
  clear qn_4
  have hp := undo_pos Hcan.out
  have hus := undo_st Hcan.out
  have hrun0 := undo_ok Hcan.out
  have hul : (undoDone ver ss st done).length + 1 ≤ done.length := by rw [undoDone_yes Hcan.out, List.length_take]; omega
  generalize undoDone ver ss st done = ud0 at *
  generalize undoSt ver ss st done = us0 at *
  have hlf := qf_4.lt
  have hlr := qr_4.lt
  have hlo := qo_4.lt
  have hdl := dn_4.len
  have hdc := dn_4.cap
  obtain ⟨po0, po1⟩ := id qo_4
  have rx0 := RBox.new w4 (.int .i64 us0) (.slice A2 ud0.length c2)
  have hb0 : Below w4.heap.size w4 (w4.alloc (.cells #[.int .i64 us0, .slice A2 ud0.length c2] 28)) := (Below.refl _ _).alloc (Nat.le_refl _) _
  have o0 := o_4.then_ hb0
  go_wp2_with fail
  go_loopw [12] (fun i wr => ∃ (k : Nat) (D' : Option Addr) (d' : Nat) (us : Int) (ud : List ByteArray), i = .int .i64 k ∧ ud.length + k + 1 ≤ done.length ∧ (us = 1 ∨ us = 3) ∧ runOk ver ss us ud = true ∧ Below w4.heap.size w4 wr ∧ RBox wr w4.heap.size (.int .i64 us) (.slice D' ud.length d') ∧ (Strs wr w4.heap.size D' d' ud ∨ OwnStrs wr (w4.heap.size + 1) D' d' ud)) (fun i _ => done.length - (intOf i).toNat)
  case atStart => exact ⟨0, A2, c2, us0, ud0, rfl, by omega, hus, hrun0, hb0, rx0, .inl o0⟩
  case round =>
    clear rx0 hb0 o0 hus hrun0 hul po0 po1
    obtain ⟨k, D', d', us, ud, rfl, hlen, hus, hrun, hb, rx, hD0⟩ := hrel
    have hD : Strs wr wr.heap.size D' d' ud := hD0.elim (fun h => h.fit) (fun h => h.strs)
    have qf := qf_4.then_ hb
    have qr := qr_4.then_ hb
    have st1 := st_4.then_ hb
    have hxl := rx.lt
    have hbW := bthen b_4 hb
    obtain ⟨x0, x1⟩ := rx.cells
    have xf := fun i => rx.free i
    obtain ⟨f0, f1⟩ := id qf
    obtain ⟨r0, r1⟩ := id qr
    rcases hus with rfl | rfl
    · have hup := back_pos hrun
      have hub : undoB ver ss 1 ud = true := undoB_iff.2 ⟨hrun, rfl⟩
      have hst2 := undo_st hub
      have hrun2 := undo_ok hub
      have hln2 : (undoDone ver ss 1 ud).length + 1 ≤ ud.length := by rw [undoDone_yes hub, List.length_take]; omega
      have hi1 : (k : Int) < done.length := by omega
      have hid : decide ((k : Int) < (done.length : Int)) = true := decide_eq_true hi1
      have hkn : k < done.length := by omega
      have KU := Lib.hid (show Calls Try.prog 14 #[flowV ver SA ss.length sc, runV 1 D' ud.length d'] wr (RetUndo (undoSt ver ss 1 ud) (undoDone ver ss 1 ud) (undoName ver ss 1 ud) true wr) from hub ▸ iRunUndo_any ver 1 SA D' sc d' ss ud wr _ _ st1 hD hss)
      generalize undoSt ver ss 1 ud = us2 at *
      generalize undoDone ver ss 1 ud = ud2 at *
      clear hrun hub
      go_wp2_with fail
      (with_reducible refine KU.out.mono ?_)
      rintro e w7 ⟨A7, c7, rfl, ho7, hb7⟩
      have rx7 := rx.then_ hb7
      have hz7 := hb7.size
      clear x0 x1 xf f0 f1 r0 r1
      obtain ⟨x0, x1⟩ := rx7.cells
      have xf := fun i => rx7.free i
      have hl7 := rx7.lt
      have rN := ((rx7.set0 (.int .i64 us2)).set1 (.slice A7 ud2.length c7)).alloc (.cells #[.int .i64 us2, .slice A7 ud2.length c7] 28)
      have hbM : Below w4.heap.size w4 ((w7.setCell ⟨w4.heap.size, 0, none⟩ (.int .i64 us2)).setCell ⟨w4.heap.size, 1, none⟩ (.slice A7 ud2.length c7)) := ((hb.trans (hb7.mono (by omega))).setCell (Nat.le_refl _) _).setCell (Nat.le_refl _) _
      have hbN := hbM.alloc (by simp; omega) (.cells #[.int .i64 us2, .slice A7 ud2.length c7] 28)
      have hoN := (((ho7.setLow (a := ⟨w4.heap.size, 0, none⟩) hxl (.int .i64 us2)).setLow (a := ⟨w4.heap.size, 1, none⟩) hxl (.slice A7 ud2.length c7)).alloc (.cells #[.int .i64 us2, .slice A7 ud2.length c7] 28)).base_ (base' := w4.heap.size + 1) (by omega)
      go_wp2_with fail
      go_roundw
      case rel => exact ⟨k + 1, A7, c7, us2, ud2, by go_num, by omega, hst2, hrun2, hbN, rN, .inr hoN⟩
      case measure => simp [intOf]; omega
    · clear hrun
      have hi1 : (k : Int) < done.length := by omega
      have hid : decide ((k : Int) < (done.length : Int)) = true := decide_eq_true hi1
      have hkn : k < done.length := by omega
      go_wp2_with fail
      go_ret
      exact ⟨rfl, hbW⟩

set_option maxRecDepth 100000 in
theorem fnUndoAll_lifted (os : Os) (started : os.Started) (H : Type) (enc : TypeId × Value → H) :
    ReturnsInHanded {} Try.checked os 3 .any (Rows.fnUndoAllSpec.pre6 enc Try.prog Try.f3 Rows.fnUndoAllRow.domain false) (Rows.fnUndoAllSpec.post enc Try.prog Try.f3 false true false false) := by
  refine returnsInHanded_of_change (C := Try.checked) own started (by kernel_rfl) Try.func3
    (ChangeSpec.witness6 (enc := enc) (C := Try.checked) false ⟨#[], #[.slice none 0 0], []⟩ 8 (by kernel_rfl) (by kernel_rfl) (by kernel_rfl) (by kernel_rfl)) ?_
  intro W base args ds gs before hval0 hW _ _
  have hval : ∀ (j : Nat) t v, Try.f3.params[j]? = some t → args[j]? = some v → Value.okWide Try.prog W .any base t v := hval0
  obtain ⟨p, q, hA0, hV, _⟩ := id hW
  have hA : DataW.TrodAll enc Try.prog W 0 (fun _ => true) true Try.f3.params.toList args.toList ds p := hA0
  rw [Try.params3] at hA hval
  obtain ⟨v0, d0, rfl, rfl, h0⟩ := trodAll_one hA
  obtain ⟨rfl, rfl⟩ := trodVars_none hV
  refine (undoAll_law W v0 (arg_code (hval 0 _ v0 rfl rfl) h0)).mono fun e W' ⟨he, hw⟩ => ?_
  subst he
  exact ⟨_, rfl, law_post laidOut (readable_of (by kernel_rfl)) rfl Try.underlying4 rfl rfl rfl rfl hW hw⟩

theorem fnUndoAll_holds : Rows.FnUndoAllSaid :=
  OpenClaim.holds_of_wide 3 Try.f3 rfl rfl rfl rfl rfl rfl rfl ⟨rfl, rfl, rfl, rfl, rfl⟩ rfl rfl rfl rfl rfl (by kernel_rfl) Try.func3 (by kernel_rfl)
    (of_decide_eq_true (by kernel_rfl)) (by unfold Func.isWrapper; rw [if_neg (of_decide_eq_false (by kernel_rfl))]; exact ⟨rfl, rfl⟩)
    (fun os started H enc _ => fnUndoAll_lifted os started H enc)

end Go.Proofs.Ytnekjmpmjadmhaa
