/- FnBehind returns true for every code. No condition. -/
import Derived.Test.YtfkjcldaclkkaaaArgs
import Derived.Test.YtfkjcldaclkkaaaTexts
import Derived.Test.YtfkjcldaclkkaaaRunTexts
import Derived.Test.YtfkjcldaclkkaaaFind
import Derived.Test.YtfkjcldaclkkaaaSameStep
import Derived.Test.YtfkjcldaclkkaaaDrawFind
import Derived.Test.YtfkjcldaclkkaaaBehind
import Derived.Test.YtfkjcldaclkkaaaBehindS
import Derived.Test.YtfkjcldaclkkaaaBehindPlain
import Derived.Test.YtfkjcldaclkkaaaCutStep
namespace Go.Proofs.Ytfkjcldaclkkaaa
set_option linter.unusedVariables false
set_option maxRecDepth 100000
open Go.ChangeShapes Go.WideShapes Go.ChangeAt Go.RowKit

/-- What the law has seen of a step. -/
def SomeB (nm : ByteArray) (after xs : List ByteArray) (q : Nat) (B : Bool) : Prop := B = true ↔ ∃ a, (a = nm ∧ a ∈ after) ∨ (a ∈ after.take q ∧ a ∈ xs)
/-- What is known behind a call whose step has been stored in a box: what it comes after. -/
def CutStepA (W0 : World) (xs : List ByteArray) (vb : Value) (wx : World) : Prop :=
  ∃ (b : Nat) (A : Option Addr) (c : Nat), vb = .pointer (some ⟨b, 0, none⟩) ∧ wx.cell? ⟨b, 1, none⟩ = some (.slice A xs.length c) ∧ Strs wx wx.heap.size A c xs ∧ b < wx.heap.size ∧ Below W0.heap.size W0 wx
theorem cut_stepA_last {W0 wK : World} {x z : Value} {A : Option Addr} {c base : Nat} {xs : List ByteArray} (hb : Below W0.heap.size W0 wK) (ho : OwnStrs wK base A c xs) : CutStepA W0 xs (.pointer (some ⟨wK.heap.size, 0, none⟩)) (wK.alloc (.cells #[x, .slice A xs.length c, z] 30)) :=
  ⟨wK.heap.size, A, c, rfl, (SBox.new wK x _ z).cells.2.1, (ho.alloc _).strs, by simp, hb.alloc hb.size _⟩
theorem cut_stepA_early {W0 wK : World} {b : Nat} {x z x0 y0 z0 : Value} {A : Option Addr} {c base : Nat} {xs : List ByteArray} (hb : Below W0.heap.size W0 wK) (bx : SBox wK b x0 y0 z0) (hW : W0.heap.size ≤ b) (ho : OwnStrs wK base A c xs) (hlt : b < base) :
    CutStepA W0 xs (.pointer (some ⟨b, 0, none⟩)) (((wK.setCell ⟨b, 0, none⟩ x).setCell ⟨b, 1, none⟩ (.slice A xs.length c)).setCell ⟨b, 2, none⟩ z) :=
  ⟨b, A, c, rfl, (((bx.set0 x).set1 _).set2 z).cells.2.1, (((ho.setLow (a := ⟨b, 0, none⟩) hlt x).setLow (a := ⟨b, 1, none⟩) hlt _).setLow (a := ⟨b, 2, none⟩) hlt z).strs, by simpa using bx.lt, ((hb.setCell hW _).setCell hW _).setCell hW _⟩

set_option maxHeartbeats 8000000 in
theorem behind_law (W : World) (v : Value) (h : IsCode W v) : Calls Try.prog 7 #[v] W fun e W' => e = .returned (.bool true) ∧ Below W.heap.size W W' := by
  obtain ⟨A, c, zs, rfl, hz⟩ := h
  have hl := hz.len
  have hc := hz.cap
  by_cases h20 : 1048576 < zs.length
  · go_enter Try.func7, Try.ntmps7
    go_wp2
    go_ret
    exact ⟨rfl, Below.refl _ _⟩
  go_enter Try.func7, Try.ntmps7
  go_wp2_with fail
  (with_reducible refine (drawFlowBehind_any A c zs W hz).mono ?_)
  rintro e w1 ⟨ver, SA, sc, ss, nm, rfl, hnm, hT, b_1⟩
  have hst := hT.sts
  have h1 := hT.one
  have h6 := hT.six
  have hss : ss.length ≤ 2000000 := by omega
  have Hsm := Lib.hid hT.small
  clear hT
  have hnm9 : nm.size ≤ 9223372036854775807 := by omega
  have st_1 := hst
  clear hst
  go_wp2_with fail
  (with_reducible refine (iFlowBehind_any ver SA sc ss nm _ _ (st_1.alloc2 _) hnm9 hss).mono ?_)
  rintro e w2 ⟨A2, c2, rfl, ho2, hr2⟩
  have hb2 : Below w1.heap.size w1 w2 := bthen ((Below.refl _ _).alloc (Nat.le_refl _) _) hr2
  have st_2 := st_1.then_ hb2
  have qf_2 := (Cell2.new w1 (.int .i64 ver) (.slice SA ss.length sc) 25).then_ hr2
  have b_2 := bthen b_1 hb2
  have z_2 := hb2.size
  clear st_1 b_1 hr2 hb2
  have o_2 := ho2.strs
  clear ho2
  obtain ⟨pf20, pf21⟩ := id qf_2
  go_wp2_with fail
  (with_reducible refine (sFlowBehind_any ver SA sc ss nm _ _ st_2 hss).mono ?_)
  rintro e w3 ⟨A3, c3, rfl, ho3, hr3⟩
  have hb3 : Below w2.heap.size w2 w3 := hr3
  have st_3 := st_2.then_ hb3
  have o_3 := o_2.then_ hb3
  have qf_3 := qf_2.then_ hb3
  have b_3 := bthen b_2 hb3
  have z_3 := hb3.size
  clear st_2 o_2 qf_2 b_2 pf20 pf21 hr3 hb3
  have n_3 := ho3.strs
  clear ho3
  obtain ⟨pf30, pf31⟩ := id qf_3
  go_wp2_with fail
  (with_reducible refine (sameTexts_same A2 A3 c2 c3 (behOut ver ss nm) _ _ _ o_3 n_3).mono ?_)
  rintro e w4 ⟨rfl, hr4⟩
  have hb4 : Below w3.heap.size w3 w4 := hr4
  have st_4 := st_3.then_ hb4
  have o_4 := o_3.then_ hb4
  have n_4 := n_3.then_ hb4
  have qf_4 := qf_3.then_ hb4
  have b_4 := bthen b_3 hb4
  have z_4 := hb4.size
  clear st_3 o_3 n_3 qf_3 b_3 pf30 pf31 hr4 hb4
  clear n_4
  have Hone := Lib.hid (fun (x : ByteArray) (hx : x ∈ behOut ver ss nm) => show findB ver ss x = true ∧ (∃ a ∈ (findSt ver ss x).after, a = nm ∨ a ∈ behOut ver ss nm) ∧ x ≠ nm from by
    cases hok : findB ver ss nm
    · rw [behOut_no hok] at hx; cases hx
    · exact beh_one hok hx)
  have Hsrt : Hid (Srt (behOut ver ss nm)) := Lib.hid (by
    cases hok : findB ver ss nm
    · rw [behOut_no hok]; exact srt_nil
    · exact behOut_srt hok)
  have hol := o_4.len
  have hoc := o_4.cap
  generalize behOut ver ss nm = xs at *
  go_wp2_with fail
  go_loopw [7] (fun i wr => ∃ k : Nat, k ≤ xs.length ∧ i = .int .i64 k ∧ Below w4.heap.size w4 wr) (fun i _ => xs.length - (intOf i).toNat)
  case atStart => exact ⟨0, Nat.zero_le _, rfl, Below.refl _ _⟩
  case round =>
    obtain ⟨k, hk, rfl, hb⟩ := hrel
    have hbW := bthen b_4 hb
    have qf := qf_4.then_ hb
    have st1 := st_4.then_ hb
    have o1 := o_4.then_ hb
    by_cases hlt : k < xs.length
    · obtain ⟨ad, rfl, had, hcell⟩ := o1.at_ hlt
      have hi0 : (0 : Int) ≤ k := by omega
      have hi1 : (k : Int) < xs.length := by omega
      obtain ⟨hfb, hex, hnex⟩ := Hone.out _ (List.getElem_mem hlt)
      obtain ⟨y, hy⟩ : ∃ y, y = xs[k] := ⟨_, rfl⟩
      rw [← hy] at hcell hfb hex hnex
      have Hy := Lib.hid hy
      clear hy
      have hx0 : (y.toList == nm.toList) = false := by rw [str_beq]; exact decide_eq_false hnex
      have Hex := Lib.hid hex
      have KD : Hid (∀ wx, Below wr.drew.heap.size wr.drew wx → Calls Try.prog 16 #[flowV ver SA ss.length sc, .string y] wx (RetFind (findSt ver ss y) true wx)) := Lib.hid (fun wx hx => by
        have h := iFlowFind_any ver SA sc ss y wx _ (st1.drew.then_ hx) hss
        rw [hfb] at h
        exact h)
      generalize findSt ver ss y = fs at *
      have hS : ∀ wx, Below wr.drew.heap.size wr.drew wx → (wx.cell? ⟨w1.heap.size, 0, none⟩ = some (.int .i64 ver) ∧ wx.cell? ⟨w1.heap.size, 1, none⟩ = some (.slice SA ss.length sc)) ∧ wx.cell? (ad.add k) = some (.string y) := fun wx hx =>
        have hu := Below.undrew hx
        ⟨⟨(qf.then_ hu).c0, (qf.then_ hu).c1⟩, (hu.cell (World.block_lt_of_cell? _ _ hcell)).trans hcell⟩
      have HS := Lib.hid hS
      have t0 := Below.refl wr.drew.heap.size wr.drew
      have tA : Below wr.drew.heap.size wr.drew (wr.alloc (.cells #[.string ⟨#[]⟩, .slice none 0 0, .bool false] 30)).drew := below_drew ((Below.refl _ _).alloc (Nat.le_refl _) _)
      have bxA : SBox (wr.alloc (.cells #[.string ⟨#[]⟩, .slice none 0 0, .bool false] 30)).drew wr.heap.size (.string ⟨#[]⟩) (.slice none 0 0) (.bool false) := (SBox.new wr _ _ _).drew
      have S0 := HS.out _ t0
      have SA0 := HS.out _ tA
      have hlow : w1.heap.size < wr.heap.size ∧ (ad.add k).block < wr.heap.size := ⟨qf.lt, World.block_lt_of_cell? _ _ hcell⟩
      have Hlow := Lib.hid hlow
      clear hS hlow hcell hex hnex hfb
      go_upto_region 11 with fail
      go_cut [8, 9] (fun vb vo wx => CutStepA wr fs.after vb wx ∧ vo = .bool true)
      case first =>
        go_region_held3 (fun wx => (wx.cell? ⟨w1.heap.size, 0, none⟩ = some (.int .i64 ver) ∧ wx.cell? ⟨w1.heap.size, 1, none⟩ = some (.slice SA ss.length sc)) ∧ wx.cell? (ad.add k) = some (.string y))
          (first
            | exact Sb | exact S0 | exact SA0
            | exact And.intro (And.intro (cell_alR Sb.1.1 _) (cell_alR Sb.1.2 _)) (cell_alR Sb.2 _)
            | exact And.intro (And.intro (cell_stR (blk_ne Hlow.out.1 (Nat.le_refl _)) (cell_stR (blk_ne Hlow.out.1 (Nat.le_refl _)) (cell_stR (blk_ne Hlow.out.1 (Nat.le_refl _)) Sb.1.1))) (cell_stR (blk_ne Hlow.out.1 (Nat.le_refl _)) (cell_stR (blk_ne Hlow.out.1 (Nat.le_refl _)) (cell_stR (blk_ne Hlow.out.1 (Nat.le_refl _)) Sb.1.2)))) (cell_stR (farb_ne Hlow.out.2 (Nat.le_refl _)) (cell_stR (farb_ne Hlow.out.2 (Nat.le_refl _)) (cell_stR (farb_ne Hlow.out.2 (Nat.le_refl _)) Sb.2))))
          (first
            | (go_at_call 16; (with_reducible refine (KD.out _ tA).mono ?_); rintro e wb ⟨A7, c7, rfl, ho7, hbb⟩; have tb := bthen tA hbb; have bl := bxA.lt; have bx := bxA.then_ hbb; have bf := fun i => bx.free i; obtain ⟨bc0, bc1, bc2⟩ := bx.cells; have Sb := HS.out _ tb)
            | (go_at_call 16; (with_reducible refine (KD.out _ t0).mono ?_); rintro e wb ⟨A7, c7, rfl, ho7, hbb⟩; have tb := bthen t0 hbb; have Sb := HS.out _ tb))
        all_goals
          go_wp2_with fail
          go_meet
          first
            | exact ⟨cut_stepA_early (Below.undrew tb) bx (Nat.le_refl _) ho7 bl, rfl⟩
            | exact ⟨cut_stepA_last (Below.undrew tb) ho7, rfl⟩
      case rest =>
        obtain ⟨w6, rfl⟩ : ∃ w6 : World, w6 = wc := ⟨_, rfl⟩
        obtain ⟨⟨b, A6, c6, rfl, bc1, hsa, lb, hb6⟩, rfl⟩ := hcut
        have hbN := bthen hb hb6
        have o6 := o1.then_ hb6
        clear KD HS t0 tA bxA S0 SA0 Hlow
        have hal := hsa.len
        have hac := hsa.cap
        have K1 := Lib.hid (placeOf_any A6 c6 fs.after nm w6 _ hsa)
        have hdec : decide (0 ≤ place fs.after nm) = has fs.after nm := (has_place _ _).symm
        generalize place fs.after nm = P1 at *
        go_wp2_with (go_at_call 21; (with_reducible refine K1.out.mono ?_); rintro e w' ⟨rfl, rfl⟩)
        go_loopw [10, 11] (fun b i wx => ∃ (q : Nat) (B : Bool), q ≤ fs.after.length ∧ i = .int .i64 q ∧ b = .bool B ∧ SomeB nm fs.after xs q B ∧ w6 = wx) (fun _ i _ => fs.after.length - (intOf i).toNat)
        case atStart => exact ⟨0, has fs.after nm, Nat.zero_le _, rfl, by rw [← hdec], ⟨fun h => ⟨nm, .inl ⟨rfl, has_mem h⟩⟩, fun ⟨a, h⟩ => h.elim (fun h => has_yes (h.1 ▸ h.2)) (fun h => by simp at h)⟩, rfl⟩
        case round =>
          obtain ⟨q, B, hq, rfl, rfl, hB, rfl⟩ := hrel
          have HB := Lib.hid hB
          clear hB
          by_cases hqt : q < fs.after.length
          · obtain ⟨ad3, rfl, had3, hc3⟩ := hsa.at_ hqt
            have hi3 : (0 : Int) ≤ q := by omega
            have hi4 : (q : Int) < fs.after.length := by omega
            have K2 := Lib.hid (placeOf_any (some ad) c2 xs fs.after[q] w6 _ o6)
            have hdec2 : decide (0 ≤ place xs fs.after[q]) = has xs fs.after[q] := (has_place _ _).symm
            have HT := Lib.hid (@List.take_succ_eq_append_getElem _ q fs.after hqt)
            obtain ⟨a0, ha0⟩ : ∃ a0, a0 = fs.after[q] := ⟨_, rfl⟩
            rw [← ha0] at hc3 K2 hdec2 HT
            clear ha0
            generalize place xs a0 = P2 at *
            have hnext : ∀ B', (B' = true ↔ B = true ∨ a0 ∈ xs) → SomeB nm fs.after xs (q + 1) B' := by
              intro B' hB'
              show B' = true ↔ _
              rw [hB', (show (B = true ↔ _) from HB.out), HT.out]
              constructor
              · rintro (⟨a, h | ⟨h, h2⟩⟩ | h)
                · exact ⟨a, .inl h⟩
                · exact ⟨a, .inr ⟨List.mem_append_left _ h, h2⟩⟩
                · exact ⟨a0, .inr ⟨by simp, h⟩⟩
              · rintro ⟨a, h | ⟨h, h2⟩⟩
                · exact .inl ⟨a, .inl h⟩
                · rcases List.mem_append.1 h with h | h
                  · exact .inl ⟨a, .inr ⟨h, h2⟩⟩
                  · simp at h; subst h; exact .inr h2
            have Hnext := Lib.hid hnext
            clear hnext
            cases B
            · cases hT : has xs a0
              · rw [hT] at hdec2
                have HN := Lib.hid (Hnext.out false (by simp [has_notMem hT]))
                clear hT
                go_wp2_with (go_at_call 21; (with_reducible refine K2.out.mono ?_); rintro e w' ⟨rfl, rfl⟩)
                go_roundw
                case rel => exact ⟨q + 1, false, by omega, by go_num, rfl, HN.out, trivial⟩
                case measure => simp [intOf]; omega
              · rw [hT] at hdec2
                have HN := Lib.hid (Hnext.out true (by simp [has_mem hT]))
                clear hT
                go_wp2_with (go_at_call 21; (with_reducible refine K2.out.mono ?_); rintro e w' ⟨rfl, rfl⟩)
                go_roundw
                case rel => exact ⟨q + 1, true, by omega, by go_num, rfl, HN.out, trivial⟩
                case measure => simp [intOf]; omega
            · have HN := Lib.hid (Hnext.out true (by simp))
              go_wp2_with fail
              go_roundw
              case rel => exact ⟨q + 1, true, by omega, by go_num, rfl, HN.out, trivial⟩
              case measure => simp [intOf]; omega
          · have hqe : q = fs.after.length := by omega
            subst hqe
            have hfin : B = true := by
              rw [(show (B = true ↔ _) from HB.out), List.take_length]
              obtain ⟨a, ha, h2 | h2⟩ := Hex.out
              · exact ⟨a, .inl ⟨h2, ha⟩⟩
              · exact ⟨a, .inr ⟨ha, h2⟩⟩
            subst hfin
            obtain ⟨ad9, e9, had9, hc9⟩ := o6.at_ hlt
            injection e9 with e9
            subst e9
            rw [← Hy.out] at hc9
            clear HB
            rcases Nat.eq_zero_or_pos k with h0 | h0
            · subst h0
              have hc9' : w6.cell? ad = some (.string y) := by
                have e : ad.add 0 = ad := by unfold Addr.add; simp
                rw [e] at hc9; exact hc9
              go_wp2_with fail
              go_quiet (fail)
              go_wp2_with fail
              go_roundw
              case rel => exact ⟨1, by omega, by go_num, bdrewN hbN _⟩
              case measure => simp [intOf]; omega
            · obtain ⟨ad8, e8, had8, hc8⟩ := o6.at_ (k := k - 1) (by omega)
              injection e8 with e8
              subst e8
              have hkp : (0 : Int) < k := by omega
              have hks : (1 : Int) ≤ k := by omega
              have hkq : (0 : Int) ≤ (k : Int) - 1 := by omega
              have hkr : (k : Int) - 1 < xs.length := by omega
              have hkt : ((k : Int) - 1).toNat = k - 1 := by omega
              have hkw : IntKind.i64.wrap ((k : Int) - 1) = (k : Int) - 1 := IntWalk.i64_in _ (by omega)
              have hbl : Op.bytesLess (xs[k - 1]'(by omega)).toList y.toList = true := by rw [Hy.out]; exact srt_lt Hsrt.out (by omega) hlt
              go_wp2_with fail
              go_quiet (fail)
              go_wp2_with fail
              go_roundw
              case rel => exact ⟨k + 1, by omega, by go_num, bdrewN hbN _⟩
              case measure => simp [intOf]; omega
    · go_wp2_with fail
      go_ret
      exact ⟨rfl, hbW⟩

set_option maxRecDepth 100000 in
theorem fnBehind_lifted (os : Os) (started : os.Started) (H : Type) (enc : TypeId × Value → H) :
    ReturnsInHanded {} Try.checked os 7 .any (Rows.fnBehindSpec.pre6 enc Try.prog Try.f7 Rows.fnBehindRow.domain false) (Rows.fnBehindSpec.post enc Try.prog Try.f7 false true false false) := by
  refine returnsInHanded_of_change (C := Try.checked) own started (by kernel_rfl) Try.func7
    (ChangeSpec.witness6 (enc := enc) (C := Try.checked) false ⟨#[], #[.slice none 0 0], []⟩ 8 (by kernel_rfl) (by kernel_rfl) (by kernel_rfl) (by kernel_rfl)) ?_
  intro W base args ds gs before hval0 hW _ _
  have hval : ∀ (j : Nat) t v, Try.f7.params[j]? = some t → args[j]? = some v → Value.okWide Try.prog W .any base t v := hval0
  obtain ⟨p, q, hA0, hV, _⟩ := id hW
  have hA : DataW.TrodAll enc Try.prog W 0 (fun _ => true) true Try.f7.params.toList args.toList ds p := hA0
  rw [Try.params7] at hA hval
  obtain ⟨v0, d0, rfl, rfl, h0⟩ := trodAll_one hA
  obtain ⟨rfl, rfl⟩ := trodVars_none hV
  refine (behind_law W v0 (arg_code (hval 0 _ v0 rfl rfl) h0)).mono fun e W' ⟨he, hw⟩ => ?_
  subst he
  exact ⟨_, rfl, law_post laidOut (readable_of (by kernel_rfl)) rfl Try.underlying4 rfl rfl rfl rfl hW hw⟩

theorem fnBehind_holds : Rows.FnBehindSaid :=
  OpenClaim.holds_of_wide 7 Try.f7 rfl rfl rfl rfl rfl rfl rfl ⟨rfl, rfl, rfl, rfl, rfl⟩ rfl rfl rfl rfl rfl (by kernel_rfl) Try.func7 (by kernel_rfl)
    (of_decide_eq_true (by kernel_rfl)) (by unfold Func.isWrapper; rw [if_neg (of_decide_eq_false (by kernel_rfl))]; exact ⟨rfl, rfl⟩)
    (fun os started H enc _ => fnBehind_lifted os started H enc)

end Go.Proofs.Ytfkjcldaclkkaaa
