/- FnBehindAll returns true for every code. No condition. -/
import Derived.Test.YtfkjcldaclkkaaaArgs
import Derived.Test.YtfkjcldaclkkaaaTexts
import Derived.Test.YtfkjcldaclkkaaaRunTexts
import Derived.Test.YtfkjcldaclkkaaaFind
import Derived.Test.YtfkjcldaclkkaaaSameStep
import Derived.Test.YtfkjcldaclkkaaaDrawFind
import Derived.Test.YtfkjcldaclkkaaaBehind
import Derived.Test.YtfkjcldaclkkaaaBehindPlain
namespace Go.Proofs.Ytfkjcldaclkkaaa
set_option linter.unusedVariables false
set_option maxRecDepth 100000
open Go.ChangeShapes Go.WideShapes Go.ChangeAt Go.RowKit

/-- What the law has seen of a step. -/
def SomeB (nm : ByteArray) (after xs : List ByteArray) (q : Nat) (B : Bool) : Prop := B = true ↔ ∃ a, (a = nm ∧ a ∈ after) ∨ (a ∈ after.take q ∧ a ∈ xs)

set_option maxHeartbeats 8000000 in
theorem behindAll_law (W : World) (v : Value) (h : IsCode W v) : Calls Try.prog 4 #[v] W fun e W' => e = .returned (.bool true) ∧ Below W.heap.size W W' := by
  obtain ⟨A, c, zs, rfl, hz⟩ := h
  have hl := hz.len
  have hc := hz.cap
  by_cases h20 : 1048576 < zs.length
  · go_enter Try.func4, Try.ntmps4
    go_wp2
    go_ret
    exact ⟨rfl, Below.refl _ _⟩
  go_enter Try.func4, Try.ntmps4
  go_wp2_with fail
  (with_reducible refine (drawFlowFind_any A c zs W hz).mono ?_)
  rintro e w1 ⟨ver, SA, sc, ss, nm, rfl, hnm, hT, b_1⟩
  have hst := hT.sts
  have h1 := hT.one
  have h6 := hT.six
  have hss : ss.length ≤ 2000000 := by omega
  have Hsm := Lib.hid hT.small
  clear hT
  have hnm9 : nm.size ≤ 9223372036854775807 := by omega
  have st_1 := hst
  clear hst
  go_wp2_with fail
  (with_reducible refine (iFlowFind_any ver SA sc ss nm _ _ (st_1.alloc2 _) hss).mono ?_)
  rintro e w2 ⟨A2, c2, rfl, ho2, hr2⟩
  have hb2 : Below w1.heap.size w1 w2 := bthen ((Below.refl _ _).alloc (Nat.le_refl _) _) hr2
  have st_2 := st_1.then_ hb2
  have qf_2 := (Cell2.new w1 (.int .i64 ver) (.slice SA ss.length sc) 25).then_ hr2
  have b_2 := bthen b_1 hb2
  have z_2 := hb2.size
  clear st_1 b_1 hr2 hb2
  have o_2 := ho2.strs
  clear ho2
  obtain ⟨pf20, pf21⟩ := (qf_2.alloc (.cells #[.string (findSt ver ss nm).name, .slice A2 (findSt ver ss nm).after.length c2, .bool (findSt ver ss nm).undo] 30))
  go_wp2_with fail
  (with_reducible refine (sFlowFind_any ver SA sc ss nm _ _ (st_2.alloc2 _) hss).mono ?_)
  rintro e w3 ⟨A3, c3, rfl, ho3, hr3⟩
  have hb3 : Below w2.heap.size w2 w3 := bthen ((Below.refl _ _).alloc (Nat.le_refl _) _) hr3
  have st_3 := st_2.then_ hb3
  have o_3 := o_2.then_ hb3
  have qf_3 := qf_2.then_ hb3
  have qs_3 := (Cell3.new w2 (.string (findSt ver ss nm).name) (.slice A2 (findSt ver ss nm).after.length c2) (.bool (findSt ver ss nm).undo) 30).then_ hr3
  have b_3 := bthen b_2 hb3
  have z_3 := hb3.size
  clear st_2 o_2 qf_2 b_2 pf20 pf21 hr3 hb3
  have n_3 := ho3.strs
  clear ho3
  cases hok : findB ver ss nm
  · clear hok
    obtain ⟨pf30, pf31⟩ := (qf_3.alloc (.cells #[.string (findSt ver ss nm).name, .slice A3 (findSt ver ss nm).after.length c3, .bool (findSt ver ss nm).undo] 30))
    obtain ⟨ps30, ps31, ps32⟩ := (qs_3.alloc (.cells #[.string (findSt ver ss nm).name, .slice A3 (findSt ver ss nm).after.length c3, .bool (findSt ver ss nm).undo] 30))
    go_wp2_with fail
    (with_reducible refine (sameStep_same (findSt ver ss nm).name A2 A3 c2 c3 (findSt ver ss nm).after (findSt ver ss nm).undo _ _ _ (o_3.alloc2 _) (n_3.alloc2 _)).mono ?_)
    rintro e w4 ⟨rfl, hr4⟩
    have hb4 : Below w3.heap.size w3 w4 := bthen ((Below.refl _ _).alloc (Nat.le_refl _) _) hr4
    have st_4 := st_3.then_ hb4
    have o_4 := o_3.then_ hb4
    have n_4 := n_3.then_ hb4
    have qf_4 := qf_3.then_ hb4
    have qs_4 := qs_3.then_ hb4
    have qt_4 := (Cell3.new w3 (.string (findSt ver ss nm).name) (.slice A3 (findSt ver ss nm).after.length c3) (.bool (findSt ver ss nm).undo) 30).then_ hr4
    have b_4 := bthen b_3 hb4
    have z_4 := hb4.size
    clear st_3 o_3 n_3 qf_3 qs_3 b_3 pf30 pf31 ps30 ps31 ps32 hr4 hb4
    obtain ⟨pf40, pf41⟩ := id qf_4
    obtain ⟨ps40, ps41, ps42⟩ := id qs_4
    obtain ⟨pt40, pt41, pt42⟩ := id qt_4
    go_wp2_with fail
    (with_reducible refine (sameStep_same (findSt ver ss nm).name A2 A3 c2 c3 (findSt ver ss nm).after (findSt ver ss nm).undo _ _ _ o_4 n_4).mono ?_)
    rintro e w5 ⟨rfl, hr5⟩
    have hb5 : Below w4.heap.size w4 w5 := hr5
    have st_5 := st_4.then_ hb5
    have o_5 := o_4.then_ hb5
    have n_5 := n_4.then_ hb5
    have qf_5 := qf_4.then_ hb5
    have qs_5 := qs_4.then_ hb5
    have qt_5 := qt_4.then_ hb5
    have b_5 := bthen b_4 hb5
    have z_5 := hb5.size
    clear st_4 o_4 n_4 qf_4 qs_4 qt_4 b_4 pf40 pf41 ps40 ps41 ps42 pt40 pt41 pt42 hr5 hb5
    go_wp2_with fail
    go_ret
    exact ⟨rfl, b_5⟩
  have Hok := Lib.hid hok
  clear hok
  obtain ⟨pf30, pf31⟩ := (qf_3.alloc (.cells #[.string (findSt ver ss nm).name, .slice A3 (findSt ver ss nm).after.length c3, .bool (findSt ver ss nm).undo] 30))
  obtain ⟨ps30, ps31, ps32⟩ := (qs_3.alloc (.cells #[.string (findSt ver ss nm).name, .slice A3 (findSt ver ss nm).after.length c3, .bool (findSt ver ss nm).undo] 30))
  go_wp2_with fail
  (with_reducible refine (sameStep_same (findSt ver ss nm).name A2 A3 c2 c3 (findSt ver ss nm).after (findSt ver ss nm).undo _ _ _ (o_3.alloc2 _) (n_3.alloc2 _)).mono ?_)
  rintro e w4 ⟨rfl, hr4⟩
  have hb4 : Below w3.heap.size w3 w4 := bthen ((Below.refl _ _).alloc (Nat.le_refl _) _) hr4
  have st_4 := st_3.then_ hb4
  have o_4 := o_3.then_ hb4
  have n_4 := n_3.then_ hb4
  have qf_4 := qf_3.then_ hb4
  have qs_4 := qs_3.then_ hb4
  have qt_4 := (Cell3.new w3 (.string (findSt ver ss nm).name) (.slice A3 (findSt ver ss nm).after.length c3) (.bool (findSt ver ss nm).undo) 30).then_ hr4
  have b_4 := bthen b_3 hb4
  have z_4 := hb4.size
  clear st_3 o_3 n_3 qf_3 qs_3 b_3 pf30 pf31 ps30 ps31 ps32 hr4 hb4
  clear n_4
  clear qt_4
  obtain ⟨pf40, pf41⟩ := id qf_4
  obtain ⟨ps40, ps41, ps42⟩ := id qs_4
  go_wp2_with fail
  (with_reducible refine (iFlowBehind_any ver SA sc ss nm _ _ st_4 hnm9 hss).mono ?_)
  rintro e w5 ⟨A5, c5, rfl, ho5, hr5⟩
  have hb5 : Below w4.heap.size w4 w5 := hr5
  have st_5 := st_4.then_ hb5
  have o_5 := o_4.then_ hb5
  have qf_5 := qf_4.then_ hb5
  have qs_5 := qs_4.then_ hb5
  have b_5 := bthen b_4 hb5
  have z_5 := hb5.size
  clear st_4 o_4 qf_4 qs_4 b_4 pf40 pf41 ps40 ps41 ps42 hr5 hb5
  have x_5 := ho5.strs
  clear ho5
  have Hall := Lib.hid (fun (s : St) (hs : s ∈ ss) => beh_all Hok.out hs)
  generalize behOut ver ss nm = xs at *
  go_wp2_with fail
  go_loopw [10] (fun i wr => ∃ k : Nat, k ≤ ss.length ∧ i = .int .i64 k ∧ w5 = wr) (fun i _ => ss.length - (intOf i).toNat)
  case atStart => exact ⟨0, Nat.zero_le _, rfl, rfl⟩
  case round =>
    obtain ⟨k, hk, rfl, rfl⟩ := hrel
    obtain ⟨f0, f1⟩ := id qf_5
    by_cases hlt : k < ss.length
    · obtain ⟨ad, A1, c1, rfl, had, hc0, hc1, hc2, hsa⟩ := st_5.at_ hlt
      have hi0 : (0 : Int) ≤ k := by omega
      have hi1 : (k : Int) < ss.length := by omega
      have Hk := Lib.hid (Hall.out _ (List.getElem_mem hlt))
      generalize ss[k] = s at *
      have hal := hsa.len
      have hac := hsa.cap
      have K1 := Lib.hid (placeOf_any A1 c1 s.after nm w5 _ hsa)
      have hdec : decide (0 ≤ place s.after nm) = has s.after nm := (has_place _ _).symm
      generalize place s.after nm = P1 at *
      go_wp2_with (go_at_call 21; (with_reducible refine K1.out.mono ?_); rintro e w' ⟨rfl, rfl⟩)
      go_loopw [11, 12] (fun b i wr => ∃ (q : Nat) (B : Bool), q ≤ s.after.length ∧ i = .int .i64 q ∧ b = .bool B ∧ SomeB nm s.after xs q B ∧ w5 = wr) (fun _ i _ => s.after.length - (intOf i).toNat)
      case atStart => exact ⟨0, has s.after nm, Nat.zero_le _, rfl, by rw [← hdec], ⟨fun h => ⟨nm, .inl ⟨rfl, has_mem h⟩⟩, fun ⟨a, h⟩ => h.elim (fun h => has_yes (h.1 ▸ h.2)) (fun h => by simp at h)⟩, rfl⟩
      case round =>
        obtain ⟨q, B, hq, rfl, rfl, hB, rfl⟩ := hrel
        have HB := Lib.hid hB
        clear hB
        by_cases hqt : q < s.after.length
        · obtain ⟨ad3, rfl, had3, hc3⟩ := hsa.at_ hqt
          have hi3 : (0 : Int) ≤ q := by omega
          have hi4 : (q : Int) < s.after.length := by omega
          have K2 := Lib.hid (placeOf_any A5 c5 xs s.after[q] w5 _ x_5)
          have hdec2 : decide (0 ≤ place xs s.after[q]) = has xs s.after[q] := (has_place _ _).symm
          have HT := Lib.hid (@List.take_succ_eq_append_getElem _ q s.after hqt)
          obtain ⟨a0, ha0⟩ : ∃ a0, a0 = s.after[q] := ⟨_, rfl⟩
          rw [← ha0] at hc3 K2 hdec2 HT
          clear ha0
          generalize place xs a0 = P2 at *
          have hnext : ∀ B', (B' = true ↔ B = true ∨ a0 ∈ xs) → SomeB nm s.after xs (q + 1) B' := by
            intro B' hB'
            show B' = true ↔ _
            rw [hB', (show (B = true ↔ _) from HB.out), HT.out]
            constructor
            · rintro (⟨a, h | ⟨h, h2⟩⟩ | h)
              · exact ⟨a, .inl h⟩
              · exact ⟨a, .inr ⟨List.mem_append_left _ h, h2⟩⟩
              · exact ⟨a0, .inr ⟨by simp, h⟩⟩
            · rintro ⟨a, h | ⟨h, h2⟩⟩
              · exact .inl ⟨a, .inl h⟩
              · rcases List.mem_append.1 h with h | h
                · exact .inl ⟨a, .inr ⟨h, h2⟩⟩
                · simp at h; subst h; exact .inr h2
          have Hnext := Lib.hid hnext
          clear hnext
          cases B
          · cases hT : has xs a0
            · rw [hT] at hdec2
              have HN := Lib.hid (Hnext.out false (by simp [has_notMem hT]))
              clear hT
              go_wp2_with (go_at_call 21; (with_reducible refine K2.out.mono ?_); rintro e w' ⟨rfl, rfl⟩)
              go_roundw
              case rel => exact ⟨q + 1, false, by omega, by go_num, rfl, HN.out, trivial⟩
              case measure => simp [intOf]; omega
            · rw [hT] at hdec2
              have HN := Lib.hid (Hnext.out true (by simp [has_mem hT]))
              clear hT
              go_wp2_with (go_at_call 21; (with_reducible refine K2.out.mono ?_); rintro e w' ⟨rfl, rfl⟩)
              go_roundw
              case rel => exact ⟨q + 1, true, by omega, by go_num, rfl, HN.out, trivial⟩
              case measure => simp [intOf]; omega
          · have HN := Lib.hid (Hnext.out true (by simp))
            go_wp2_with fail
            go_roundw
            case rel => exact ⟨q + 1, true, by omega, by go_num, rfl, HN.out, trivial⟩
            case measure => simp [intOf]; omega
        · have hqe : q = s.after.length := by omega
          subst hqe
          have K3 := Lib.hid (placeOf_any A5 c5 xs s.name w5 _ x_5)
          have hdec3 : decide (0 ≤ place xs s.name) = has xs s.name := (has_place _ _).symm
          have hfin : B = has xs s.name := by
            rw [Bool.eq_iff_iff, (show (B = true ↔ _) from HB.out), List.take_length]
            constructor
            · rintro ⟨a, ⟨h, h2⟩ | ⟨h, h2⟩⟩
              · exact has_yes (Hk.out.1 ⟨a, h2, .inl h⟩)
              · exact has_yes (Hk.out.1 ⟨a, h, .inr h2⟩)
            · intro h
              obtain ⟨a, ha, h2⟩ := Hk.out.2 (has_mem h)
              rcases h2 with h2 | h2
              · exact ⟨a, .inl ⟨h2, ha⟩⟩
              · exact ⟨a, .inr ⟨ha, h2⟩⟩
          rw [← hfin] at hdec3
          have hbb : (B != B) = false := by cases B <;> rfl
          have hbb2 : (B == B) = true := by cases B <;> rfl
          clear hfin HB
          generalize place xs s.name = P3 at *
          go_wp2_with (go_at_call 21; (with_reducible refine K3.out.mono ?_); rintro e w' ⟨rfl, rfl⟩)
          go_roundw
          case rel => exact ⟨k + 1, by omega, by go_num, trivial⟩
          case measure => simp [intOf]; omega
    · go_wp2_with fail
      go_ret
      exact ⟨rfl, b_5⟩

set_option maxRecDepth 100000 in
theorem fnBehindAll_lifted (os : Os) (started : os.Started) (H : Type) (enc : TypeId × Value → H) :
    ReturnsInHanded {} Try.checked os 4 .any (Rows.fnBehindAllSpec.pre6 enc Try.prog Try.f4 Rows.fnBehindAllRow.domain false) (Rows.fnBehindAllSpec.post enc Try.prog Try.f4 false true false false) := by
  refine returnsInHanded_of_change (C := Try.checked) own started (by kernel_rfl) Try.func4
    (ChangeSpec.witness6 (enc := enc) (C := Try.checked) false ⟨#[], #[.slice none 0 0], []⟩ 8 (by kernel_rfl) (by kernel_rfl) (by kernel_rfl) (by kernel_rfl)) ?_
  intro W base args ds gs before hval0 hW _ _
  have hval : ∀ (j : Nat) t v, Try.f4.params[j]? = some t → args[j]? = some v → Value.okWide Try.prog W .any base t v := hval0
  obtain ⟨p, q, hA0, hV, _⟩ := id hW
  have hA : DataW.TrodAll enc Try.prog W 0 (fun _ => true) true Try.f4.params.toList args.toList ds p := hA0
  rw [Try.params4] at hA hval
  obtain ⟨v0, d0, rfl, rfl, h0⟩ := trodAll_one hA
  obtain ⟨rfl, rfl⟩ := trodVars_none hV
  refine (behindAll_law W v0 (arg_code (hval 0 _ v0 rfl rfl) h0)).mono fun e W' ⟨he, hw⟩ => ?_
  subst he
  exact ⟨_, rfl, law_post laidOut (readable_of (by kernel_rfl)) rfl Try.underlying4 rfl rfl rfl rfl hW hw⟩

theorem fnBehindAll_holds : Rows.FnBehindAllSaid :=
  OpenClaim.holds_of_wide 4 Try.f4 rfl rfl rfl rfl rfl rfl rfl ⟨rfl, rfl, rfl, rfl, rfl⟩ rfl rfl rfl rfl rfl (by kernel_rfl) Try.func4 (by kernel_rfl)
    (of_decide_eq_true (by kernel_rfl)) (by unfold Func.isWrapper; rw [if_neg (of_decide_eq_false (by kernel_rfl))]; exact ⟨rfl, rfl⟩)
    (fun os started H enc _ => fnBehindAll_lifted os started H enc)

end Go.Proofs.Ytfkjcldaclkkaaa
