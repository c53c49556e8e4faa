/- FnFind returns true for every code. No condition. -/
import Derived.Test.YtfkjcldaclkkaaaArgs
import Derived.Test.YtfkjcldaclkkaaaTexts
import Derived.Test.YtfkjcldaclkkaaaRunTexts
import Derived.Test.YtfkjcldaclkkaaaFind
import Derived.Test.YtfkjcldaclkkaaaSameStep
import Derived.Test.YtfkjcldaclkkaaaDrawFind
namespace Go.Proofs.Ytfkjcldaclkkaaa
set_option linter.unusedVariables false
set_option maxRecDepth 100000
open Go.ChangeShapes Go.WideShapes Go.ChangeAt Go.RowKit

set_option maxHeartbeats 8000000 in
theorem find_law (W : World) (v : Value) (h : IsCode W v) : Calls Try.prog 3 #[v] W fun e W' => e = .returned (.bool true) ∧ Below W.heap.size W W' := by
  obtain ⟨A, c, zs, rfl, hz⟩ := h
  have hl := hz.len
  have hc := hz.cap
  by_cases h20 : 1048576 < zs.length
  · go_enter Try.func3, Try.ntmps3
    go_wp2
    go_ret
    exact ⟨rfl, Below.refl _ _⟩
  go_enter Try.func3, Try.ntmps3
  go_wp2_with fail
  (with_reducible refine (drawFlowFind_any A c zs W hz).mono ?_)
  rintro e w1 ⟨ver, SA, sc, ss, nm, rfl, hnm, hT, b_1⟩
  have hst := hT.sts
  have h1 := hT.one
  have h6 := hT.six
  have hss : ss.length ≤ 2000000 := by omega
  have Hsm := Lib.hid hT.small
  clear hT
  have hnm9 : nm.size ≤ 9223372036854775807 := by omega
  have st_1 := hst
  clear hst
  go_wp2_with fail
  (with_reducible refine (iFlowFind_any ver SA sc ss nm _ _ (st_1.alloc2 _) hss).mono ?_)
  rintro e w2 ⟨A2, c2, rfl, ho2, hr2⟩
  have hb2 : Below w1.heap.size w1 w2 := bthen ((Below.refl _ _).alloc (Nat.le_refl _) _) hr2
  have st_2 := st_1.then_ hb2
  have qf_2 := (Cell2.new w1 (.int .i64 ver) (.slice SA ss.length sc) 25).then_ hr2
  have b_2 := bthen b_1 hb2
  have z_2 := hb2.size
  clear st_1 b_1 hr2 hb2
  have o_2 := ho2.strs
  clear ho2
  obtain ⟨pf20, pf21⟩ := (qf_2.alloc (.cells #[.string (findSt ver ss nm).name, .slice A2 (findSt ver ss nm).after.length c2, .bool (findSt ver ss nm).undo] 30))
  go_wp2_with fail
  (with_reducible refine (sFlowFind_any ver SA sc ss nm _ _ (st_2.alloc2 _) hss).mono ?_)
  rintro e w3 ⟨A3, c3, rfl, ho3, hr3⟩
  have hb3 : Below w2.heap.size w2 w3 := bthen ((Below.refl _ _).alloc (Nat.le_refl _) _) hr3
  have st_3 := st_2.then_ hb3
  have o_3 := o_2.then_ hb3
  have qf_3 := qf_2.then_ hb3
  have qs_3 := (Cell3.new w2 (.string (findSt ver ss nm).name) (.slice A2 (findSt ver ss nm).after.length c2) (.bool (findSt ver ss nm).undo) 30).then_ hr3
  have b_3 := bthen b_2 hb3
  have z_3 := hb3.size
  clear st_2 o_2 qf_2 b_2 pf20 pf21 hr3 hb3
  have n_3 := ho3.strs
  clear ho3
  cases hok : findB ver ss nm
  · clear hok
    obtain ⟨pf30, pf31⟩ := (qf_3.alloc (.cells #[.string (findSt ver ss nm).name, .slice A3 (findSt ver ss nm).after.length c3, .bool (findSt ver ss nm).undo] 30))
    obtain ⟨ps30, ps31, ps32⟩ := (qs_3.alloc (.cells #[.string (findSt ver ss nm).name, .slice A3 (findSt ver ss nm).after.length c3, .bool (findSt ver ss nm).undo] 30))
    go_wp2_with fail
    (with_reducible refine (sameStep_same (findSt ver ss nm).name A2 A3 c2 c3 (findSt ver ss nm).after (findSt ver ss nm).undo _ _ _ (o_3.alloc2 _) (n_3.alloc2 _)).mono ?_)
    rintro e w4 ⟨rfl, hr4⟩
    have hb4 : Below w3.heap.size w3 w4 := bthen ((Below.refl _ _).alloc (Nat.le_refl _) _) hr4
    have st_4 := st_3.then_ hb4
    have o_4 := o_3.then_ hb4
    have n_4 := n_3.then_ hb4
    have qf_4 := qf_3.then_ hb4
    have qs_4 := qs_3.then_ hb4
    have qt_4 := (Cell3.new w3 (.string (findSt ver ss nm).name) (.slice A3 (findSt ver ss nm).after.length c3) (.bool (findSt ver ss nm).undo) 30).then_ hr4
    have b_4 := bthen b_3 hb4
    have z_4 := hb4.size
    clear st_3 o_3 n_3 qf_3 qs_3 b_3 pf30 pf31 ps30 ps31 ps32 hr4 hb4
    obtain ⟨pf40, pf41⟩ := id qf_4
    obtain ⟨ps40, ps41, ps42⟩ := id qs_4
    obtain ⟨pt40, pt41, pt42⟩ := id qt_4
    go_wp2_with fail
    (with_reducible refine (sameStep_same (findSt ver ss nm).name A2 A3 c2 c3 (findSt ver ss nm).after (findSt ver ss nm).undo _ _ _ o_4 n_4).mono ?_)
    rintro e w5 ⟨rfl, hr5⟩
    have hb5 : Below w4.heap.size w4 w5 := hr5
    have st_5 := st_4.then_ hb5
    have o_5 := o_4.then_ hb5
    have n_5 := n_4.then_ hb5
    have qf_5 := qf_4.then_ hb5
    have qs_5 := qs_4.then_ hb5
    have qt_5 := qt_4.then_ hb5
    have b_5 := bthen b_4 hb5
    have z_5 := hb5.size
    clear st_4 o_4 n_4 qf_4 qs_4 qt_4 b_4 pf40 pf41 ps40 ps41 ps42 pt40 pt41 pt42 hr5 hb5
    go_wp2_with fail
    go_ret
    exact ⟨rfl, b_5⟩
  have Hok := Lib.hid hok
  clear hok
  obtain ⟨pf30, pf31⟩ := (qf_3.alloc (.cells #[.string (findSt ver ss nm).name, .slice A3 (findSt ver ss nm).after.length c3, .bool (findSt ver ss nm).undo] 30))
  obtain ⟨ps30, ps31, ps32⟩ := (qs_3.alloc (.cells #[.string (findSt ver ss nm).name, .slice A3 (findSt ver ss nm).after.length c3, .bool (findSt ver ss nm).undo] 30))
  go_wp2_with fail
  (with_reducible refine (sameStep_same (findSt ver ss nm).name A2 A3 c2 c3 (findSt ver ss nm).after (findSt ver ss nm).undo _ _ _ (o_3.alloc2 _) (n_3.alloc2 _)).mono ?_)
  rintro e w4 ⟨rfl, hr4⟩
  have hb4 : Below w3.heap.size w3 w4 := bthen ((Below.refl _ _).alloc (Nat.le_refl _) _) hr4
  have st_4 := st_3.then_ hb4
  have o_4 := o_3.then_ hb4
  have n_4 := n_3.then_ hb4
  have qf_4 := qf_3.then_ hb4
  have qs_4 := qs_3.then_ hb4
  have qt_4 := (Cell3.new w3 (.string (findSt ver ss nm).name) (.slice A3 (findSt ver ss nm).after.length c3) (.bool (findSt ver ss nm).undo) 30).then_ hr4
  have b_4 := bthen b_3 hb4
  have z_4 := hb4.size
  clear st_3 o_3 n_3 qf_3 qs_3 b_3 pf30 pf31 ps30 ps31 ps32 hr4 hb4
  clear n_4
  clear qt_4
  obtain ⟨j, hj, hfs, hnmj⟩ := find_at Hok.out
  have hfo := (findB_iff.1 Hok.out).1
  have hfn : (findSt ver ss nm).name = nm := by rw [hfs]; exact hnmj
  have hsok : stepOk (findSt ver ss nm).name (findSt ver ss nm).after = true := by
    have := (flowOk_iff.1 hfo).2.2.2.2.2.1 _ (List.getElem_mem hj)
    rw [hfs]
    unfold stepOk2 at this
    simp only [Bool.and_eq_true] at this
    exact this.1
  have Hne := Lib.hid (fun (k : Nat) (hk : k < j) => show ¬ (ss[k]'(by omega)).name = (findSt ver ss nm).name from by rw [hfs]; exact names_ne hfo (by omega) hj (by omega))
  have Hfs := Lib.hid hfs
  have Hsok := Lib.hid hsok
  have Hfn := Lib.hid hfn
  have hnn : ((findSt ver ss nm).name.toList == nm.toList) = true := by rw [hfn]; simp
  clear hfo hfs hsok hfn hnmj
  generalize findSt ver ss nm = fs at *
  go_wp2_with fail
  go_loopw [9] (fun i wr => ∃ k : Nat, k ≤ j ∧ i = .int .i64 k ∧ Below w4.heap.size w4 wr) (fun i _ => ss.length - (intOf i).toNat)
  case atStart => exact ⟨0, Nat.zero_le _, rfl, Below.refl _ _⟩
  case round =>
    obtain ⟨k, hk, rfl, hb⟩ := hrel
    have hbW := bthen b_4 hb
    have hkl : k < ss.length := by omega
    have qf := qf_4.then_ hb
    have qs := qs_4.then_ hb
    have st1 := st_4.then_ hb
    have o1 := o_4.then_ hb
    obtain ⟨ad, A1, c1, rfl, had, hc0, hc1, hc2, hsa⟩ := st1.at_ hkl
    have hi0 : (0 : Int) ≤ k := by omega
    have hi1 : (k : Int) < ss.length := by omega
    obtain ⟨f0, f1⟩ := id qf
    have hS : ∀ wx, Below wr.drew.heap.size wr.drew wx → wx.cell? ⟨w1.heap.size, 1, none⟩ = some (.slice (some ad) ss.length sc) ∧ (wx.cell? (ad.add (k * 3)) = some (.string ss[k].name) ∧ wx.cell? ⟨(ad.add (k * 3)).block, (ad.add (k * 3)).off + 1, none⟩ = some (.slice A1 ss[k].after.length c1) ∧ wx.cell? ⟨(ad.add (k * 3)).block, (ad.add (k * 3)).off + 2, none⟩ = some (.bool ss[k].undo)) ∧ (wx.cell? ⟨w2.heap.size, 0, none⟩ = some (.string fs.name) ∧ wx.cell? ⟨w2.heap.size, 1, none⟩ = some (.slice A2 fs.after.length c2) ∧ wx.cell? ⟨w2.heap.size, 2, none⟩ = some (.bool fs.undo)) := fun wx hx =>
      have hu := Below.undrew hx
      ⟨(qf.then_ hu).c1, ⟨(hu.cell (World.block_lt_of_cell? _ _ hc0)).trans hc0, (hu.cell (World.block_lt_of_cell? _ _ hc1)).trans hc1, (hu.cell (World.block_lt_of_cell? _ _ hc2)).trans hc2⟩, ⟨(qs.then_ hu).c0, (qs.then_ hu).c1, (qs.then_ hu).c2⟩⟩
    have S0 := hS _ (Below.refl _ _)
    have HS := Lib.hid hS
    clear hS hc0 hc1 hc2
    by_cases hkj : k < j
    · have K := Lib.hid (sameStep_ne ss[k].name fs.name (.slice A1 ss[k].after.length c1) (.slice A2 fs.after.length c2) ss[k].undo fs.undo wr.drew (Hne.out k hkj))
      go_wp2_with fail
      go_region_held3 (fun wx => wx.cell? ⟨w1.heap.size, 1, none⟩ = some (.slice (some ad) ss.length sc) ∧ (wx.cell? (ad.add (k * 3)) = some (.string ss[k].name) ∧ wx.cell? ⟨(ad.add (k * 3)).block, (ad.add (k * 3)).off + 1, none⟩ = some (.slice A1 ss[k].after.length c1) ∧ wx.cell? ⟨(ad.add (k * 3)).block, (ad.add (k * 3)).off + 2, none⟩ = some (.bool ss[k].undo)) ∧ (wx.cell? ⟨w2.heap.size, 0, none⟩ = some (.string fs.name) ∧ wx.cell? ⟨w2.heap.size, 1, none⟩ = some (.slice A2 fs.after.length c2) ∧ wx.cell? ⟨w2.heap.size, 2, none⟩ = some (.bool fs.undo)))
        (first | exact S1 | exact S0)
        ((go_at_call 18; (with_reducible refine K.out.mono ?_); rintro e wb ⟨rfl, hbb⟩; have S1 := HS.out _ hbb))
      have hbN := bthen hb (Below.undrew hbb)
      go_wp2_with fail
      go_roundw
      case rel => exact ⟨k + 1, by omega, by go_num, hbN⟩
      case measure => simp [intOf]; omega
    · obtain rfl : k = j := by omega
      have hss9 := st1.lens k hkl
      rw [← Hfs.out] at S0 hsa hss9
      have HS2 : Hid (∀ wx, Below wr.drew.heap.size wr.drew wx → wx.cell? ⟨w1.heap.size, 1, none⟩ = some (.slice (some ad) ss.length sc) ∧ (wx.cell? (ad.add (k * 3)) = some (.string fs.name) ∧ wx.cell? ⟨(ad.add (k * 3)).block, (ad.add (k * 3)).off + 1, none⟩ = some (.slice A1 fs.after.length c1) ∧ wx.cell? ⟨(ad.add (k * 3)).block, (ad.add (k * 3)).off + 2, none⟩ = some (.bool fs.undo)) ∧ (wx.cell? ⟨w2.heap.size, 0, none⟩ = some (.string fs.name) ∧ wx.cell? ⟨w2.heap.size, 1, none⟩ = some (.slice A2 fs.after.length c2) ∧ wx.cell? ⟨w2.heap.size, 2, none⟩ = some (.bool fs.undo))) := by rw [Hfs.out]; rw [Hfs.out] at HS; exact HS
      have K := Lib.hid (sameStep_same fs.name A1 A2 c1 c2 fs.after fs.undo wr.drew _ _ hsa.drew o1.drew)
      clear HS
      go_wp2_with fail
      go_region_held3 (fun wx => wx.cell? ⟨w1.heap.size, 1, none⟩ = some (.slice (some ad) ss.length sc) ∧ (wx.cell? (ad.add (k * 3)) = some (.string fs.name) ∧ wx.cell? ⟨(ad.add (k * 3)).block, (ad.add (k * 3)).off + 1, none⟩ = some (.slice A1 fs.after.length c1) ∧ wx.cell? ⟨(ad.add (k * 3)).block, (ad.add (k * 3)).off + 2, none⟩ = some (.bool fs.undo)) ∧ (wx.cell? ⟨w2.heap.size, 0, none⟩ = some (.string fs.name) ∧ wx.cell? ⟨w2.heap.size, 1, none⟩ = some (.slice A2 fs.after.length c2) ∧ wx.cell? ⟨w2.heap.size, 2, none⟩ = some (.bool fs.undo)))
        (first | exact S1 | exact S0)
        ((go_at_call 18; (with_reducible refine K.out.mono ?_); rintro e wb ⟨rfl, hbb⟩; have S1 := HS2.out _ hbb))
      have hbN := bthen hbW (Below.undrew hbb)
      have o2 := o1.then_ (Below.undrew hbb)
      have K2 := Lib.hid ((iStepValid_any fs.name A2 c2 fs.after fs.undo wb _ o2 hss9).mono fun e w' ⟨h1, h2⟩ => (⟨h1.trans (ret_bool Hsok.out), h2⟩ : e = Ending.returned (.bool true) ∧ Below wb.heap.size wb w'))
      obtain ⟨_, _, x0, x1, x2⟩ := S1
      go_wp2_with fail
      (with_reducible refine K2.out.mono ?_)
      rintro e wc ⟨rfl, hbc⟩
      go_wp2_with fail
      go_ret
      exact ⟨rfl, bthen hbN hbc⟩

set_option maxRecDepth 100000 in
theorem fnFind_lifted (os : Os) (started : os.Started) (H : Type) (enc : TypeId × Value → H) :
    ReturnsInHanded {} Try.checked os 3 .any (Rows.fnFindSpec.pre6 enc Try.prog Try.f3 Rows.fnFindRow.domain false) (Rows.fnFindSpec.post enc Try.prog Try.f3 false true false false) := by
  refine returnsInHanded_of_change (C := Try.checked) own started (by kernel_rfl) Try.func3
    (ChangeSpec.witness6 (enc := enc) (C := Try.checked) false ⟨#[], #[.slice none 0 0], []⟩ 8 (by kernel_rfl) (by kernel_rfl) (by kernel_rfl) (by kernel_rfl)) ?_
  intro W base args ds gs before hval0 hW _ _
  have hval : ∀ (j : Nat) t v, Try.f3.params[j]? = some t → args[j]? = some v → Value.okWide Try.prog W .any base t v := hval0
  obtain ⟨p, q, hA0, hV, _⟩ := id hW
  have hA : DataW.TrodAll enc Try.prog W 0 (fun _ => true) true Try.f3.params.toList args.toList ds p := hA0
  rw [Try.params3] at hA hval
  obtain ⟨v0, d0, rfl, rfl, h0⟩ := trodAll_one hA
  obtain ⟨rfl, rfl⟩ := trodVars_none hV
  refine (find_law W v0 (arg_code (hval 0 _ v0 rfl rfl) h0)).mono fun e W' ⟨he, hw⟩ => ?_
  subst he
  exact ⟨_, rfl, law_post laidOut (readable_of (by kernel_rfl)) rfl Try.underlying4 rfl rfl rfl rfl hW hw⟩

theorem fnFind_holds : Rows.FnFindSaid :=
  OpenClaim.holds_of_wide 3 Try.f3 rfl rfl rfl rfl rfl rfl rfl ⟨rfl, rfl, rfl, rfl, rfl⟩ rfl rfl rfl rfl rfl (by kernel_rfl) Try.func3 (by kernel_rfl)
    (of_decide_eq_true (by kernel_rfl)) (by unfold Func.isWrapper; rw [if_neg (of_decide_eq_false (by kernel_rfl))]; exact ⟨rfl, rfl⟩)
    (fun os started H enc _ => fnFind_lifted os started H enc)

end Go.Proofs.Ytfkjcldaclkkaaa
