/- FnUndo returns true for every code. No condition. -/
import Derived.Test.YtnekjmpmjadmhaaArgs
import Derived.Test.YtnekjmpmjadmhaaRunLaws
import Derived.Test.YtnekjmpmjadmhaaRunFns
import Derived.Test.YtnekjmpmjadmhaaSpecRunFns
import Derived.Test.YtnekjmpmjadmhaaFlowFns
import Derived.Test.YtnekjmpmjadmhaaTexts
import Derived.Test.YtnekjmpmjadmhaaRunTexts
import Derived.Test.YtnekjmpmjadmhaaDrawRuns
import Derived.Test.YtnekjmpmjadmhaaDrawUndo
import Derived.Test.YtnekjmpmjadmhaaUndoLaws
import Derived.Test.YtnekjmpmjadmhaaFind
namespace Go.Proofs.Ytnekjmpmjadmhaa
set_option linter.unusedVariables false
set_option maxRecDepth 100000
open Go.ChangeShapes Go.WideShapes Go.ChangeAt Go.RowKit

set_option maxHeartbeats 8000000 in
theorem undo_law (W : World) (v : Value) (h : IsCode W v) : Calls Try.prog 4 #[v] W fun e W' => e = .returned (.bool true) ∧ Below W.heap.size W W' := by
  obtain ⟨A, c, zs, rfl, hz⟩ := h
  have hl := hz.len
  have hc := hz.cap
  by_cases h20 : 1048576 < zs.length
  · go_enter Try.func4, Try.ntmps4
    go_wp2
    go_ret
    exact ⟨rfl, Below.refl _ _⟩
  go_enter Try.func4, Try.ntmps4
  go_wp2_with fail
  (with_reducible refine (drawRunUndo_any A c zs W hz).mono ?_)
  rintro e w1 ⟨ver, SA, sc, ss, st, D, d, done, rfl, hT, b_1⟩
  have hst := hT.sts
  have hdn := hT.strs
  have h1 := hT.one
  have h6 := hT.six
  have hl7 := hT.len
  have hss : ss.length ≤ 2000000 := by omega
  clear hT
  have st_1 := hst
  have dn_1 := hdn
  clear hst hdn
  go_wp2_with fail
  (with_reducible refine (iRunUndo_any ver st SA D sc d ss done _ _ _ ((st_1.alloc2 _).alloc2 _) ((dn_1.alloc2 _).alloc2 _) hss).mono ?_)
  rintro e w2 ⟨A2, c2, rfl, ho2, hr2⟩
  have hb2 : Below w1.heap.size w1 w2 := bthen (((Below.refl _ _).alloc (Nat.le_refl _) _).alloc (by simp) _) hr2
  have st_2 := st_1.then_ hb2
  have dn_2 := dn_1.then_ hb2
  have qf_2 := ((Cell2.new w1 (.int .i64 ver) (.slice SA ss.length sc) 25).alloc (.cells #[.int .i64 st, .slice D done.length d] 28)).then_ hr2
  have qr_2 : Cell2 w2 (w1.heap.size + 1) (.int .i64 st) (.slice D done.length d) := by have := (Cell2.new (w1.alloc (.cells #[.int .i64 ver, .slice SA ss.length sc] 25)) (.int .i64 st) (.slice D done.length d) 28).then_ hr2; simpa using this
  have b_2 := bthen b_1 hb2
  have z_2 := hb2.size
  clear st_1 dn_1 b_1 hr2 hb2
  have o_2 := ho2.strs
  clear ho2
  obtain ⟨pf20, pf21⟩ := (qf_2.alloc (.cells #[.int .i64 (undoSt ver ss st done), .slice A2 (undoDone ver ss st done).length c2] 28))
  obtain ⟨pr20, pr21⟩ := (qr_2.alloc (.cells #[.int .i64 (undoSt ver ss st done), .slice A2 (undoDone ver ss st done).length c2] 28))
  go_wp2_with fail
  (with_reducible refine (sRunUndo_any ver st SA D sc d ss done _ _ _ (st_2.alloc2 _) (dn_2.alloc2 _) hss).mono ?_)
  rintro e w3 ⟨A3, c3, rfl, ho3, hr3⟩
  have hb3 : Below w2.heap.size w2 w3 := bthen ((Below.refl _ _).alloc (Nat.le_refl _) _) hr3
  have st_3 := st_2.then_ hb3
  have dn_3 := dn_2.then_ hb3
  have o_3 := o_2.then_ hb3
  have qf_3 := qf_2.then_ hb3
  have qr_3 := qr_2.then_ hb3
  have qo_3 := (Cell2.new w2 (.int .i64 (undoSt ver ss st done)) (.slice A2 (undoDone ver ss st done).length c2) 28).then_ hr3
  have b_3 := bthen b_2 hb3
  have z_3 := hb3.size
  clear st_2 dn_2 o_2 qf_2 qr_2 b_2 pf20 pf21 pr20 pr21 hr3 hb3
  have n_3 := ho3.strs
  clear ho3
  have hne : ((undoName ver ss st done).toList != (undoName ver ss st done).toList) = false := by simp
  have heq : ((undoName ver ss st done).toList == (undoName ver ss st done).toList) = true := by simp
  cases hcan : undoB ver ss st done
  · clear hcan
    obtain ⟨pf30, pf31⟩ := (qf_3.alloc (.cells #[.int .i64 (undoSt ver ss st done), .slice A3 (undoDone ver ss st done).length c3] 28))
    obtain ⟨pr30, pr31⟩ := (qr_3.alloc (.cells #[.int .i64 (undoSt ver ss st done), .slice A3 (undoDone ver ss st done).length c3] 28))
    obtain ⟨po30, po31⟩ := (qo_3.alloc (.cells #[.int .i64 (undoSt ver ss st done), .slice A3 (undoDone ver ss st done).length c3] 28))
    go_wp2_with fail
    (with_reducible refine (sameRun_same (undoSt ver ss st done) A2 A3 c2 c3 (undoDone ver ss st done) _ _ _ (o_3.alloc2 _) (n_3.alloc2 _)).mono ?_)
    rintro e w4 ⟨rfl, hr4⟩
    have hb4 : Below w3.heap.size w3 w4 := bthen ((Below.refl _ _).alloc (Nat.le_refl _) _) hr4
    have st_4 := st_3.then_ hb4
    have dn_4 := dn_3.then_ hb4
    have o_4 := o_3.then_ hb4
    have n_4 := n_3.then_ hb4
    have qf_4 := qf_3.then_ hb4
    have qr_4 := qr_3.then_ hb4
    have qo_4 := qo_3.then_ hb4
    have qn_4 := (Cell2.new w3 (.int .i64 (undoSt ver ss st done)) (.slice A3 (undoDone ver ss st done).length c3) 28).then_ hr4
    have b_4 := bthen b_3 hb4
    have z_4 := hb4.size
    clear st_3 dn_3 o_3 n_3 qf_3 qr_3 qo_3 b_3 pf30 pf31 pr30 pr31 po30 po31 hr4 hb4
    obtain ⟨pf40, pf41⟩ := id qf_4
    obtain ⟨pr40, pr41⟩ := id qr_4
    obtain ⟨po40, po41⟩ := id qo_4
    obtain ⟨pn40, pn41⟩ := id qn_4
    go_wp2_with fail
    (with_reducible refine (sameRun_same (undoSt ver ss st done) A2 A3 c2 c3 (undoDone ver ss st done) _ _ _ o_4 n_4).mono ?_)
    rintro e w5 ⟨rfl, hr5⟩
    have hb5 : Below w4.heap.size w4 w5 := hr5
    have st_5 := st_4.then_ hb5
    have dn_5 := dn_4.then_ hb5
    have o_5 := o_4.then_ hb5
    have n_5 := n_4.then_ hb5
    have qf_5 := qf_4.then_ hb5
    have qr_5 := qr_4.then_ hb5
    have qo_5 := qo_4.then_ hb5
    have qn_5 := qn_4.then_ hb5
    have b_5 := bthen b_4 hb5
    have z_5 := hb5.size
    clear st_4 dn_4 o_4 n_4 qf_4 qr_4 qo_4 qn_4 b_4 pf40 pf41 pr40 pr41 po40 po41 pn40 pn41 hr5 hb5
    go_wp2_with fail
    go_ret
    exact ⟨rfl, b_5⟩
  have Hcan := Lib.hid hcan
  clear hcan
  obtain ⟨pf30, pf31⟩ := (qf_3.alloc (.cells #[.int .i64 (undoSt ver ss st done), .slice A3 (undoDone ver ss st done).length c3] 28))
  obtain ⟨pr30, pr31⟩ := (qr_3.alloc (.cells #[.int .i64 (undoSt ver ss st done), .slice A3 (undoDone ver ss st done).length c3] 28))
  obtain ⟨po30, po31⟩ := (qo_3.alloc (.cells #[.int .i64 (undoSt ver ss st done), .slice A3 (undoDone ver ss st done).length c3] 28))
  go_wp2_with fail
  (with_reducible refine (sameRun_same (undoSt ver ss st done) A2 A3 c2 c3 (undoDone ver ss st done) _ _ _ (o_3.alloc2 _) (n_3.alloc2 _)).mono ?_)
  rintro e w4 ⟨rfl, hr4⟩
  have hb4 : Below w3.heap.size w3 w4 := bthen ((Below.refl _ _).alloc (Nat.le_refl _) _) hr4
  have st_4 := st_3.then_ hb4
  have dn_4 := dn_3.then_ hb4
  have o_4 := o_3.then_ hb4
  have n_4 := n_3.then_ hb4
  have qf_4 := qf_3.then_ hb4
  have qr_4 := qr_3.then_ hb4
  have qo_4 := qo_3.then_ hb4
  have qn_4 := (Cell2.new w3 (.int .i64 (undoSt ver ss st done)) (.slice A3 (undoDone ver ss st done).length c3) 28).then_ hr4
  have b_4 := bthen b_3 hb4
  have z_4 := hb4.size
  clear st_3 dn_3 o_3 n_3 qf_3 qr_3 qo_3 b_3 pf30 pf31 pr30 pr31 po30 po31 hr4 hb4
  clear n_4
  clear qn_4
  have hp := undo_pos Hcan.out
  have hnm := undo_name Hcan.out
  obtain ⟨hfb, hfu⟩ := undo_find Hcan.out
  have hrun := undo_ok Hcan.out
  have hdl := dn_4.len
  have hdc := dn_4.cap
  have hj0 : (0 : Int) < done.length := by omega
  have hj1 : (0 : Int) ≤ (done.length : Int) - 1 := by omega
  have hj2 : (1 : Int) ≤ done.length := by omega
  have hj3 : (done.length : Int) - 1 < done.length := by omega
  have hj4 : IntKind.i64.wrap ((done.length : Int) - 1) = (done.length : Int) - 1 := IntWalk.i64_in _ (by omega)
  have hj5 : ((done.length : Int) - 1).toNat = done.length - 1 := by omega
  have hj6 : (done.length : Int) - 1 ≤ d := by omega
  have Hfb := Lib.hid hfb
  have Hfu := Lib.hid hfu
  have Hrun := Lib.hid hrun
  have Hnm := Lib.hid hnm
  clear hfb hfu hrun hnm
  obtain ⟨pf40, pf41⟩ := id qf_4
  obtain ⟨pr40, pr41⟩ := id qr_4
  obtain ⟨po40, po41⟩ := id qo_4
  go_wp2_with fail
  (with_reducible refine (iFlowFind_any ver SA sc ss (undoName ver ss st done) _ _ st_4 hss).mono ?_)
  rintro e w5 ⟨A5, c5, rfl, ho5, hr5⟩
  have hb5 : Below w4.heap.size w4 w5 := hr5
  have st_5 := st_4.then_ hb5
  have dn_5 := dn_4.then_ hb5
  have o_5 := o_4.then_ hb5
  have qf_5 := qf_4.then_ hb5
  have qr_5 := qr_4.then_ hb5
  have qo_5 := qo_4.then_ hb5
  have b_5 := bthen b_4 hb5
  have z_5 := hb5.size
  clear st_4 dn_4 o_4 qf_4 qr_4 qo_4 b_4 pf40 pf41 pr40 pr41 po40 po41 hr5 hb5
  clear ho5
  rw [Hfb.out, Hfu.out]
  have hdd := undoDone_yes Hcan.out
  have KV0 := fun (wx : World) (hs : Sts wx wx.heap.size SA sc ss) (ho : Strs wx wx.heap.size A2 c2 (undoDone ver ss st done)) => (iRunValid_any ver (undoSt ver ss st done) SA A2 sc c2 ss (undoDone ver ss st done) wx _ _ hs ho hss).mono fun e w' ⟨h1, h2⟩ => (⟨h1.trans (ret_bool Hrun.out), h2⟩ : e = Ending.returned (.bool true) ∧ Below wx.heap.size wx w')
  have KV := Lib.hid KV0
  have tk_5 := dn_5.take (done.length - 1)
  rw [← hdd] at tk_5
  have hul : (undoDone ver ss st done).length = done.length - 1 := by rw [hdd, List.length_take]; omega
  have KS0 := fun (wx : World) (ha : Strs wx wx.heap.size A2 c2 (undoDone ver ss st done)) (hb : Strs wx wx.heap.size D d (undoDone ver ss st done)) => sameTexts_same A2 D c2 d (undoDone ver ss st done) wx _ _ ha hb
  rw [hul] at KS0 KV0 qo_5
  clear KV
  have KS := Lib.hid KS0
  have KV := Lib.hid KV0
  clear KV0 KS0 hdd
  obtain ⟨ad, rfl, had, hcell⟩ := dn_5.at_ (k := done.length - 1) (by omega)
  rw [← Hnm.out] at hcell
  generalize undoName ver ss st done = nm at *
  generalize undoDone ver ss st done = ud at *
  generalize undoSt ver ss st done = us at *
  generalize findSt ver ss nm = fs at *
  clear Hrun Hnm hul
  obtain ⟨pf50, pf51⟩ := (qf_5.alloc (.cells #[.string fs.name, .slice A5 fs.after.length c5, .bool true] 36))
  obtain ⟨pr50, pr51⟩ := (qr_5.alloc (.cells #[.string fs.name, .slice A5 fs.after.length c5, .bool true] 36))
  obtain ⟨po50, po51⟩ := (qo_5.alloc (.cells #[.string fs.name, .slice A5 fs.after.length c5, .bool true] 36))
  go_upto_region 10 with fail
  have rt0 := Below.refl ((w5.alloc (.cells #[.string fs.name, .slice A5 fs.after.length c5, .bool true] 36)).drew).heap.size ((w5.alloc (.cells #[.string fs.name, .slice A5 fs.after.length c5, .bool true] 36)).drew)
  have rs : Below (w5.alloc (.cells #[.string fs.name, .slice A5 fs.after.length c5, .bool true] 36)).heap.size (w5.alloc (.cells #[.string fs.name, .slice A5 fs.after.length c5, .bool true] 36)) ((w5.alloc (.cells #[.string fs.name, .slice A5 fs.after.length c5, .bool true] 36)).drew) := (Below.refl _ _).drew
  have rqf : Cell2 ((w5.alloc (.cells #[.string fs.name, .slice A5 fs.after.length c5, .bool true] 36)).drew) (w1.heap.size) (.int .i64 ver) (.slice SA ss.length sc) := ⟨(qf_5.alloc (.cells #[.string fs.name, .slice A5 fs.after.length c5, .bool true] 36)).c0, (qf_5.alloc (.cells #[.string fs.name, .slice A5 fs.after.length c5, .bool true] 36)).c1⟩
  have rqr : Cell2 ((w5.alloc (.cells #[.string fs.name, .slice A5 fs.after.length c5, .bool true] 36)).drew) (w1.heap.size + 1) (.int .i64 st) (.slice (some ad) done.length d) := ⟨(qr_5.alloc (.cells #[.string fs.name, .slice A5 fs.after.length c5, .bool true] 36)).c0, (qr_5.alloc (.cells #[.string fs.name, .slice A5 fs.after.length c5, .bool true] 36)).c1⟩
  have rqo : Cell2 ((w5.alloc (.cells #[.string fs.name, .slice A5 fs.after.length c5, .bool true] 36)).drew) (w2.heap.size) (.int .i64 us) (.slice A2 (done.length - 1) c2) := ⟨(qo_5.alloc (.cells #[.string fs.name, .slice A5 fs.after.length c5, .bool true] 36)).c0, (qo_5.alloc (.cells #[.string fs.name, .slice A5 fs.after.length c5, .bool true] 36)).c1⟩
  have rqs : Cell3 ((w5.alloc (.cells #[.string fs.name, .slice A5 fs.after.length c5, .bool true] 36)).drew) (w5.heap.size) (.string fs.name) (.slice A5 fs.after.length c5) (.bool true) := ⟨(Cell3.new w5 (.string fs.name) (.slice A5 fs.after.length c5) (.bool true) 36).c0, (Cell3.new w5 (.string fs.name) (.slice A5 fs.after.length c5) (.bool true) 36).c1, (Cell3.new w5 (.string fs.name) (.slice A5 fs.after.length c5) (.bool true) 36).c2⟩
  have rx0 : ((w5.alloc (.cells #[.string fs.name, .slice A5 fs.after.length c5, .bool true] 36)).drew).cell? (ad.add (done.length - 1)) = some (.string nm) := cell_alR hcell _
  have rS0 := (And.intro (rqf.then_ rt0).c0 (And.intro (rqf.then_ rt0).c1 (And.intro (rqr.then_ rt0).c0 (And.intro (rqr.then_ rt0).c1 (And.intro (rqo.then_ rt0).c0 (And.intro (rqo.then_ rt0).c1 (And.intro (rqs.then_ rt0).c0 (And.intro (rqs.then_ rt0).c1 (And.intro (rqs.then_ rt0).c2 ((rt0.cell (World.block_lt_of_cell? _ _ rx0)).trans rx0))))))))))
  go_region_held3 (fun w' => w'.cell? ⟨w1.heap.size, 0, none⟩ = some (.int .i64 ver) ∧ w'.cell? ⟨w1.heap.size, 1, none⟩ = some (.slice SA ss.length sc) ∧ w'.cell? ⟨w1.heap.size + 1, 0, none⟩ = some (.int .i64 st) ∧ w'.cell? ⟨w1.heap.size + 1, 1, none⟩ = some (.slice (some ad) done.length d) ∧ w'.cell? ⟨w2.heap.size, 0, none⟩ = some (.int .i64 us) ∧ w'.cell? ⟨w2.heap.size, 1, none⟩ = some (.slice A2 (done.length - 1) c2) ∧ w'.cell? ⟨w5.heap.size, 0, none⟩ = some (.string fs.name) ∧ w'.cell? ⟨w5.heap.size, 1, none⟩ = some (.slice A5 fs.after.length c5) ∧ w'.cell? ⟨w5.heap.size, 2, none⟩ = some (.bool true) ∧ w'.cell? (ad.add (done.length - 1)) = some (.string nm))
    (first | exact rS2 | exact rS1 | exact rS0)
    (first
      | (go_at_call 18; (with_reducible refine (KV.out _ ((st_5.alloc2 _).then_ (bthen rs rt0)).fit ((o_5.alloc2 _).then_ (bthen rs rt0)).fit).mono ?_); rintro e rw1 ⟨rfl, rh1⟩; have rt1 := bthen rt0 rh1; have rS1 := (And.intro (rqf.then_ rt1).c0 (And.intro (rqf.then_ rt1).c1 (And.intro (rqr.then_ rt1).c0 (And.intro (rqr.then_ rt1).c1 (And.intro (rqo.then_ rt1).c0 (And.intro (rqo.then_ rt1).c1 (And.intro (rqs.then_ rt1).c0 (And.intro (rqs.then_ rt1).c1 (And.intro (rqs.then_ rt1).c2 ((rt1.cell (World.block_lt_of_cell? _ _ rx0)).trans rx0)))))))))))
      | (go_at_call 19; (with_reducible refine (KS.out _ ((o_5.alloc2 _).then_ (bthen rs rt1)).fit ((tk_5.alloc2 _).then_ (bthen rs rt1)).fit).mono ?_); rintro e rw2 ⟨rfl, rh2⟩; have rt2 := bthen rt1 rh2; have rS2 := (And.intro (rqf.then_ rt2).c0 (And.intro (rqf.then_ rt2).c1 (And.intro (rqr.then_ rt2).c0 (And.intro (rqr.then_ rt2).c1 (And.intro (rqo.then_ rt2).c0 (And.intro (rqo.then_ rt2).c1 (And.intro (rqs.then_ rt2).c0 (And.intro (rqs.then_ rt2).c1 (And.intro (rqs.then_ rt2).c2 ((rt2.cell (World.block_lt_of_cell? _ _ rx0)).trans rx0))))))))))))
  all_goals
    go_wp2_with fail
    go_ret
    exact ⟨rfl, bthen b_5 (bthen (((Below.refl _ _).alloc (Nat.le_refl _) _)) (bthen rs rt2))⟩

set_option maxRecDepth 100000 in
theorem fnUndo_lifted (os : Os) (started : os.Started) (H : Type) (enc : TypeId × Value → H) :
    ReturnsInHanded {} Try.checked os 4 .any (Rows.fnUndoSpec.pre6 enc Try.prog Try.f4 Rows.fnUndoRow.domain false) (Rows.fnUndoSpec.post enc Try.prog Try.f4 false true false false) := by
  refine returnsInHanded_of_change (C := Try.checked) own started (by kernel_rfl) Try.func4
    (ChangeSpec.witness6 (enc := enc) (C := Try.checked) false ⟨#[], #[.slice none 0 0], []⟩ 8 (by kernel_rfl) (by kernel_rfl) (by kernel_rfl) (by kernel_rfl)) ?_
  intro W base args ds gs before hval0 hW _ _
  have hval : ∀ (j : Nat) t v, Try.f4.params[j]? = some t → args[j]? = some v → Value.okWide Try.prog W .any base t v := hval0
  obtain ⟨p, q, hA0, hV, _⟩ := id hW
  have hA : DataW.TrodAll enc Try.prog W 0 (fun _ => true) true Try.f4.params.toList args.toList ds p := hA0
  rw [Try.params4] at hA hval
  obtain ⟨v0, d0, rfl, rfl, h0⟩ := trodAll_one hA
  obtain ⟨rfl, rfl⟩ := trodVars_none hV
  refine (undo_law W v0 (arg_code (hval 0 _ v0 rfl rfl) h0)).mono fun e W' ⟨he, hw⟩ => ?_
  subst he
  exact ⟨_, rfl, law_post laidOut (readable_of (by kernel_rfl)) rfl Try.underlying4 rfl rfl rfl rfl hW hw⟩

theorem fnUndo_holds : Rows.FnUndoSaid :=
  OpenClaim.holds_of_wide 4 Try.f4 rfl rfl rfl rfl rfl rfl rfl ⟨rfl, rfl, rfl, rfl, rfl⟩ rfl rfl rfl rfl rfl (by kernel_rfl) Try.func4 (by kernel_rfl)
    (of_decide_eq_true (by kernel_rfl)) (by unfold Func.isWrapper; rw [if_neg (of_decide_eq_false (by kernel_rfl))]; exact ⟨rfl, rfl⟩)
    (fun os started H enc _ => fnUndo_lifted os started H enc)

end Go.Proofs.Ytnekjmpmjadmhaa
