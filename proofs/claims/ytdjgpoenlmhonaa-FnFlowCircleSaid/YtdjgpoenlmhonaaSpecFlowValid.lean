/- Contract of the reference's FlowValid. Condition: lengths as Go has them. -/
import Derived.Test.YtdjgpoenlmhonaaSpecFlows
import Derived.Test.YtdjgpoenlmhonaaFlowValidPlain
import Derived.Deep.RegionWith
import Derived.Deep.DeepCutAuto
import Derived.Deep.RegionHeld3
namespace Go.Proofs.Ytdjgpoenlmhonaa
set_option linter.unusedVariables false
set_option maxRecDepth 100000
open Go.RowKit

theorem Sts.name_ {w : World} {B c k : Nat} {ad : Addr} {ss : List St} (h : Sts w B (some ad) c ss) (hk : k < ss.length) : w.cell? (ad.add (k * 3)) = some (.string ss[k].name) := by
  obtain ⟨ad', A', c', e, _, h0, _⟩ := h.at_ hk
  injection e with e; subst e
  exact h0
theorem asc_bad_names {ss : List St} {k : Nat} (hk : k < ss.length) (h0 : 0 < k) (h : blt (ss[k - 1]'(by omega)).name ss[k].name = false) : asc (names ss) = false := by
  have hk' : k < (names ss).length := by rw [names_length]; exact hk
  refine asc_bad_order hk' h0 ?_
  simpa [names] using h

set_option maxHeartbeats 8000000 in
theorem sFlowValid_any (ver : Int) (A : Option Addr) (c : Nat) (ss : List St) (w : World) (B : Nat) (h : Sts w B A c ss) (hl : ss.length ≤ 2000000) :
    Calls Try.prog 16 #[flowV ver A ss.length c] w fun e w' => e = .returned (.bool (flowOk ver ss)) ∧ Below w.heap.size w w' := by
  have h1 := h.len
  have h2 := h.cap
  have hbox0 := Cell2.new w (.int .i64 ver) (.slice A ss.length c) 25
  go_enter Try.func16, Try.ntmps16
  go_wp2_with fail
  go_loopw [3] (fun i wr => ∃ k : Nat, k ≤ ss.length ∧ i = .int .i64 k ∧ Below w.heap.size w wr ∧ Cell2 wr w.heap.size (.int .i64 ver) (.slice A ss.length c) ∧
    ∀ j, (h : j < ss.length) → j < k → stepOk2 ss ss[j] = true ∧ (0 < j → blt (ss[j - 1]'(by omega)).name ss[j].name = true)) (fun i _ => ss.length - (intOf i).toNat)
  case atStart => exact ⟨0, Nat.zero_le _, rfl, (Below.refl _ _).alloc (Nat.le_refl _) _, hbox0, fun j hj h => absurd h (by omega)⟩
  case round =>
    clear hbox0
    obtain ⟨wo, rfl⟩ : ∃ wo : World, wo = wr := ⟨_, rfl⟩
    obtain ⟨k, hk, rfl, hb, hbox, hall0⟩ := hrel
    have hall := Lib.hid hall0
    clear hall0
    have hbl := hbox.lt
    obtain ⟨x0, x1⟩ := id hbox
    by_cases hlt : k < ss.length
    · have hst := h.then_ hb
      obtain ⟨ad, A1, c1, rfl, _, hc0, hc1, hc2, hs⟩ := hst.at_ hlt
      have hsz := h.lens k hlt
      have hbs := hb.size
      have hb2 := hb.alloc hbs (.cells #[.string ss[k].name, .slice A1 ss[k].after.length c1, .bool ss[k].undo] 32)
      have hs2 := (hs.alloc hbs (.cells #[.string ss[k].name, .slice A1 ss[k].after.length c1, .bool ss[k].undo] 32)).drew
      have KS := Lib.hid (sStepValid_any ss[k].name A1 c1 ss[k].after ss[k].undo _ _ hs2 hsz)
      have hbox2 := hbox.alloc (.cells #[.string ss[k].name, .slice A1 ss[k].after.length c1, .bool ss[k].undo] 32)
      have hst2 := hst.alloc hbs (.cells #[.string ss[k].name, .slice A1 ss[k].after.length c1, .bool ss[k].undo] 32)
      have hcb := Cell3.new wo (.string ss[k].name) (.slice A1 ss[k].after.length c1) (.bool ss[k].undo) 32
      go_upto_region 5 with fail
      go_cut [36] (fun b wx => ∃ bb : Bool, b = .bool bb ∧ (bb = true → flowOk ver ss = false) ∧ (bb = false → stepOk ss[k].name ss[k].after = true ∧ (0 < k → blt (ss[k - 1]'(by omega)).name ss[k].name = true)) ∧
        Below w.heap.size w wx ∧ Cell2 wx w.heap.size (.int .i64 ver) (.slice (some ad) ss.length c) ∧ Cell3 wx wo.heap.size (.string ss[k].name) (.slice A1 ss[k].after.length c1) (.bool ss[k].undo) ∧ wo.heap.size < wx.heap.size)
      case first =>
        cases hok : stepOk ss[k].name ss[k].after
        · have hf := Lib.hid (flowOk_no (ver := ver) (ss := ss) (by
            rintro ⟨_, _, _, _, _, h6, _⟩
            have := h6 _ (List.getElem_mem hlt)
            unfold stepOk2 at this
            rw [hok] at this
            simp at this))
          rw [hok] at KS
          refine wp_region_any (by kernel_rfl) ?_
          change wpAny _ _ _ _ _ _ _ (World.drew _)
          refine wpAny_ready (rs := [0]) (by kernel_rfl) (by simp) ?_
          refine AllReady.cons rfl (fun K hK => ?_) AllReady.nil
          go_simp
          refine hK _ _ ?_
          clear hK K
          refine wpAny_ready (rs := [1]) (by kernel_rfl) (by simp) ?_
          refine AllReady.cons rfl (fun K hK => ?_) AllReady.nil
          go_simp
          (with_reducible refine KS.out.mono ?_)
          rintro e w4 ⟨rfl, hb4⟩
          go_simp
          refine hK _ _ ?_
          clear hK K
          refine wpAny_take (i := 2) (v := ?_) rfl (by kernel_rfl) (by kernel_rfl) (by kernel_rfl) (fun _ _ _ h => h) (Or.inl ⟨by kernel_rfl, ?_⟩) ?_
          rotate_left
          · intro w; go_simp; try with_reducible rfl
          refine wpAny_take (i := 3) (v := ?_) rfl (by kernel_rfl) (by kernel_rfl) (by kernel_rfl) (fun _ _ _ h => h) (Or.inl ⟨by kernel_rfl, ?_⟩) ?_
          rotate_left
          · intro w; go_simp; try with_reducible rfl
          refine wpAny_take (i := 4) (v := undef) rfl (by kernel_rfl) (by kernel_rfl) (by kernel_rfl) (fun _ _ _ h => h) (Or.inr ⟨by kernel_rfl, rfl⟩) ?_
          refine wpAny_take (i := 5) (v := undef) rfl (by kernel_rfl) (by kernel_rfl) (by kernel_rfl) (fun _ _ _ h => h) (Or.inr ⟨by kernel_rfl, rfl⟩) ?_
          refine wpAny_take (i := 6) (v := undef) rfl (by kernel_rfl) (by kernel_rfl) (by kernel_rfl) (fun _ _ _ h => h) (Or.inr ⟨by kernel_rfl, rfl⟩) ?_
          refine wpAny_take (i := 7) (v := undef) rfl (by kernel_rfl) (by kernel_rfl) (by kernel_rfl) (fun _ _ _ h => h) (Or.inr ⟨by kernel_rfl, rfl⟩) ?_
          refine wpAny_take (i := 8) (v := undef) rfl (by kernel_rfl) (by kernel_rfl) (by kernel_rfl) (fun _ _ _ h => h) (Or.inr ⟨by kernel_rfl, rfl⟩) ?_
          refine wpAny_take (i := 9) (v := undef) rfl (by kernel_rfl) (by kernel_rfl) (by kernel_rfl) (fun _ _ _ h => h) (Or.inr ⟨by kernel_rfl, rfl⟩) ?_
          refine wpAny_take (i := 10) (v := undef) rfl (by kernel_rfl) (by kernel_rfl) (by kernel_rfl) (fun _ _ _ h => h) (Or.inr ⟨by kernel_rfl, rfl⟩) ?_
          refine wpAny_take (i := 11) (v := undef) rfl (by kernel_rfl) (by kernel_rfl) (by kernel_rfl) (fun _ _ _ h => h) (Or.inr ⟨by kernel_rfl, rfl⟩) ?_
          refine wpAny_take (i := 12) (v := undef) rfl (by kernel_rfl) (by kernel_rfl) (by kernel_rfl) (fun _ _ _ h => h) (Or.inr ⟨by kernel_rfl, rfl⟩) ?_
          refine wpAny_take (i := 13) (v := undef) rfl (by kernel_rfl) (by kernel_rfl) (by kernel_rfl) (fun _ _ _ h => h) (Or.inr ⟨by kernel_rfl, rfl⟩) ?_
          refine wpAny_take (i := 14) (v := undef) rfl (by kernel_rfl) (by kernel_rfl) (by kernel_rfl) (fun _ _ _ h => h) (Or.inr ⟨by kernel_rfl, rfl⟩) ?_
          refine wpAny_take (i := 15) (v := undef) rfl (by kernel_rfl) (by kernel_rfl) (by kernel_rfl) (fun _ _ _ h => h) (Or.inr ⟨by kernel_rfl, rfl⟩) ?_
          refine wpAny_take (i := 16) (v := undef) rfl (by kernel_rfl) (by kernel_rfl) (by kernel_rfl) (fun _ _ _ h => h) (Or.inr ⟨by kernel_rfl, rfl⟩) ?_
          refine wpAny_take (i := 17) (v := undef) rfl (by kernel_rfl) (by kernel_rfl) (by kernel_rfl) (fun _ _ _ h => h) (Or.inr ⟨by kernel_rfl, rfl⟩) ?_
          refine wpAny_take (i := 18) (v := ?_) rfl (by kernel_rfl) (by kernel_rfl) (by kernel_rfl) (fun _ _ _ h => h) (Or.inl ⟨by kernel_rfl, ?_⟩) ?_
          rotate_left
          · intro w; go_simp; try with_reducible rfl
          refine wpAny_done (by kernel_rfl) ?_ _
          go_simp
          have hb4' := bthen (w2 := w4) hb2 ⟨hb4.os, hb4.tape, hb4.output, hb4.size, hb4.block⟩
          have hcb4 := hcb.then_ (w' := w4) ⟨hb4.os, hb4.tape, hb4.output, hb4.size, hb4.block⟩
          have hbox4 := hbox2.then_ (w' := w4) ⟨hb4.os, hb4.tape, hb4.output, hb4.size, hb4.block⟩
          go_wp2_with fail
          go_meet
          exact ⟨true, rfl, fun _ => hf.out, by simp, hb4', hbox4, hcb4, hcb4.lt⟩
        · rw [hok] at KS
          rcases Nat.eq_zero_or_pos k with rfl | h0
          · skip
            refine wp_region_any (by kernel_rfl) ?_
            change wpAny _ _ _ _ _ _ _ (World.drew _)
            refine wpAny_ready (rs := [0]) (by kernel_rfl) (by simp) ?_
            refine AllReady.cons rfl (fun K hK => ?_) AllReady.nil
            go_simp
            refine hK _ _ ?_
            clear hK K
            refine wpAny_ready (rs := [1]) (by kernel_rfl) (by simp) ?_
            refine AllReady.cons rfl (fun K hK => ?_) AllReady.nil
            go_simp
            (with_reducible refine KS.out.mono ?_)
            rintro e w4 ⟨rfl, hb4⟩
            go_simp
            refine hK _ _ ?_
            clear hK K
            refine wpAny_take (i := 2) (v := ?_) rfl (by kernel_rfl) (by kernel_rfl) (by kernel_rfl) (fun _ _ _ h => h) (Or.inl ⟨by kernel_rfl, ?_⟩) ?_
            rotate_left
            · intro w; go_simp; try with_reducible rfl
            refine wpAny_take (i := 3) (v := ?_) rfl (by kernel_rfl) (by kernel_rfl) (by kernel_rfl) (fun _ _ _ h => h) (Or.inl ⟨by kernel_rfl, ?_⟩) ?_
            rotate_left
            · intro w; go_simp; try with_reducible rfl
            refine wpAny_take (i := 4) (v := ?_) rfl (by kernel_rfl) (by kernel_rfl) (by kernel_rfl) (fun _ _ _ h => h) (Or.inl ⟨by kernel_rfl, ?_⟩) ?_
            rotate_left
            · intro w; go_simp; try with_reducible rfl
            refine wpAny_take (i := 5) (v := ?_) rfl (by kernel_rfl) (by kernel_rfl) (by kernel_rfl) (fun _ _ _ h => h) (Or.inl ⟨by kernel_rfl, ?_⟩) ?_
            rotate_left
            · intro w; go_simp; try with_reducible rfl
            refine wpAny_take (i := 6) (v := ?_) rfl (by kernel_rfl) (by kernel_rfl) (by kernel_rfl) (fun _ _ _ h => h) (Or.inl ⟨by kernel_rfl, ?_⟩) ?_
            rotate_left
            · intro w; go_simp; try with_reducible rfl
            refine wpAny_take (i := 7) (v := undef) rfl (by kernel_rfl) (by kernel_rfl) (by kernel_rfl) (fun _ _ _ h => h) (Or.inr ⟨by kernel_rfl, rfl⟩) ?_
            refine wpAny_take (i := 8) (v := undef) rfl (by kernel_rfl) (by kernel_rfl) (by kernel_rfl) (fun _ _ _ h => h) (Or.inr ⟨by kernel_rfl, rfl⟩) ?_
            refine wpAny_take (i := 9) (v := undef) rfl (by kernel_rfl) (by kernel_rfl) (by kernel_rfl) (fun _ _ _ h => h) (Or.inr ⟨by kernel_rfl, rfl⟩) ?_
            refine wpAny_take (i := 10) (v := undef) rfl (by kernel_rfl) (by kernel_rfl) (by kernel_rfl) (fun _ _ _ h => h) (Or.inr ⟨by kernel_rfl, rfl⟩) ?_
            refine wpAny_take (i := 11) (v := undef) rfl (by kernel_rfl) (by kernel_rfl) (by kernel_rfl) (fun _ _ _ h => h) (Or.inr ⟨by kernel_rfl, rfl⟩) ?_
            refine wpAny_take (i := 12) (v := undef) rfl (by kernel_rfl) (by kernel_rfl) (by kernel_rfl) (fun _ _ _ h => h) (Or.inr ⟨by kernel_rfl, rfl⟩) ?_
            refine wpAny_take (i := 13) (v := undef) rfl (by kernel_rfl) (by kernel_rfl) (by kernel_rfl) (fun _ _ _ h => h) (Or.inr ⟨by kernel_rfl, rfl⟩) ?_
            refine wpAny_take (i := 14) (v := undef) rfl (by kernel_rfl) (by kernel_rfl) (by kernel_rfl) (fun _ _ _ h => h) (Or.inr ⟨by kernel_rfl, rfl⟩) ?_
            refine wpAny_take (i := 15) (v := undef) rfl (by kernel_rfl) (by kernel_rfl) (by kernel_rfl) (fun _ _ _ h => h) (Or.inr ⟨by kernel_rfl, rfl⟩) ?_
            refine wpAny_take (i := 16) (v := undef) rfl (by kernel_rfl) (by kernel_rfl) (by kernel_rfl) (fun _ _ _ h => h) (Or.inr ⟨by kernel_rfl, rfl⟩) ?_
            refine wpAny_take (i := 17) (v := ?_) rfl (by kernel_rfl) (by kernel_rfl) (by kernel_rfl) (fun _ _ _ h => h) (Or.inl ⟨by kernel_rfl, ?_⟩) ?_
            rotate_left
            · intro w; go_simp; try with_reducible rfl
            refine wpAny_take (i := 18) (v := ?_) rfl (by kernel_rfl) (by kernel_rfl) (by kernel_rfl) (fun _ _ _ h => h) (Or.inl ⟨by kernel_rfl, ?_⟩) ?_
            rotate_left
            · intro w; go_simp; try with_reducible rfl
            refine wpAny_done (by kernel_rfl) ?_ _
            go_simp
            have hb4' := bthen (w2 := w4) hb2 ⟨hb4.os, hb4.tape, hb4.output, hb4.size, hb4.block⟩
            have hcb4 := hcb.then_ (w' := w4) ⟨hb4.os, hb4.tape, hb4.output, hb4.size, hb4.block⟩
            have hbox4 := hbox2.then_ (w' := w4) ⟨hb4.os, hb4.tape, hb4.output, hb4.size, hb4.block⟩
            go_wp2_with fail
            go_meet
            exact ⟨false, rfl, by simp, fun _ => ⟨hok, fun h => absurd h (by omega)⟩, hb4', hbox4, hcb4, hcb4.lt⟩
          · have hd : decide ((0 : Int) < k) = true := by simp; omega
            have hk1 : (0 : Int) ≤ (k : Int) - 1 := by omega
            have hk2 : (1 : Int) ≤ k := by omega
            have hk3 : (k : Int) - 1 < ss.length := by omega
            have hk4 : IntKind.i64.wrap ((k : Int) - 1) = (k : Int) - 1 := IntWalk.i64_in _ (by omega)
            have hk5 : ((k : Int) - 1).toNat = k - 1 := by omega
            have hk6 : k - 1 < ss.length := by omega
            obtain ⟨y0, y1⟩ := id hbox2
            obtain ⟨v0, v1, v2⟩ := id hcb
            have hn1 := hst2.name_ hk6
            have hS : ∀ w4, Below wo.heap.size.succ (wo.alloc (.cells #[.string ss[k].name, .slice A1 ss[k].after.length c1, .bool ss[k].undo] 32)).drew w4 →
                w4.cell? ⟨w.heap.size, 0, none⟩ = some (.int .i64 ver) ∧ w4.cell? ⟨w.heap.size, 1, none⟩ = some (.slice (some ad) ss.length c) ∧ w4.cell? ⟨wo.heap.size, 0, none⟩ = some (.string ss[k].name) ∧
                w4.cell? ⟨wo.heap.size, 1, none⟩ = some (.slice A1 ss[k].after.length c1) ∧ w4.cell? ⟨wo.heap.size, 2, none⟩ = some (.bool ss[k].undo) ∧ w4.cell? (ad.add ((k - 1) * 3)) = some (.string (ss[k - 1]'(by omega)).name) := by
              intro w4 hb4
              have hz : (wo.alloc (.cells #[.string ss[k].name, .slice A1 ss[k].after.length c1, .bool ss[k].undo] 32)).heap.size = wo.heap.size.succ := by simp
              have hb4' : Below (wo.alloc (.cells #[.string ss[k].name, .slice A1 ss[k].after.length c1, .bool ss[k].undo] 32)).heap.size (wo.alloc (.cells #[.string ss[k].name, .slice A1 ss[k].after.length c1, .bool ss[k].undo] 32)) w4 := by
                rw [hz]; exact ⟨hb4.os, hb4.tape, hb4.output, hb4.size, hb4.block⟩
              obtain ⟨z0, z1⟩ := hbox2.then_ hb4'
              obtain ⟨t0, t1, t2⟩ := hcb.then_ hb4'
              exact ⟨z0, z1, t0, t1, t2, (hst2.then_ hb4').name_ hk6⟩
            have KS2 := Lib.hid (KS.out.mono fun e w4 (he : e = _ ∧ Below _ _ w4) => (show e = .returned (.bool true) ∧ Below _ _ w4 ∧ _ from ⟨he.1, he.2, hS w4 (by have := he.2; simpa using this)⟩))
            have HS := Lib.hid hS
            clear hS KS
            cases hlt2 : blt (ss[k - 1]'(by omega)).name ss[k].name
            all_goals
              have hge : Op.bytesLess (ss[k - 1]'(by omega)).name.toList ss[k].name.toList = _ := hlt2
              have Hlt2 := Lib.hid hlt2
              clear hlt2
              go_region_held3 (fun w' => w'.cell? ⟨w.heap.size, 0, none⟩ = some (.int .i64 ver) ∧ w'.cell? ⟨w.heap.size, 1, none⟩ = some (.slice (some ad) ss.length c) ∧ w'.cell? ⟨wo.heap.size, 0, none⟩ = some (.string ss[k].name) ∧
                w'.cell? ⟨wo.heap.size, 1, none⟩ = some (.slice A1 ss[k].after.length c1) ∧ w'.cell? ⟨wo.heap.size, 2, none⟩ = some (.bool ss[k].undo) ∧ w'.cell? (ad.add ((k - 1) * 3)) = some (.string (ss[k - 1]'(by omega)).name)) (first | assumption | exact HS.out _ ⟨rfl, rfl, rfl, Nat.le_refl _, fun _ _ => rfl⟩)
                ((go_at_call 27; (with_reducible refine KS2.out.mono ?_); rintro e w4 ⟨rfl, hb4, hS4⟩))
              have hb4' := bthen (w2 := w4) hb2 ⟨hb4.os, hb4.tape, hb4.output, hb4.size, hb4.block⟩
              have hcb4 := hcb.then_ (w' := w4) ⟨hb4.os, hb4.tape, hb4.output, hb4.size, hb4.block⟩
              have hbox4 := hbox2.then_ (w' := w4) ⟨hb4.os, hb4.tape, hb4.output, hb4.size, hb4.block⟩
              go_wp2_with fail
              go_meet
            · have hf := flowOk_no (ver := ver) (ss := ss) (by
                rintro ⟨_, _, _, _, h5, _⟩
                rw [asc_bad_names hlt h0 Hlt2.out] at h5
                simp at h5)
              exact ⟨true, rfl, fun _ => hf, by simp, hb4', hbox4, hcb4, hcb4.lt⟩
            · exact ⟨false, rfl, by simp, fun _ => ⟨hok, fun _ => Hlt2.out⟩, hb4', hbox4, hcb4, hcb4.lt⟩
      case rest =>
        clear KS hs2 hst2 hbox2 hcb
        obtain ⟨bb, rfl, hyes, hno, hb5, hbox5, hcb5, hlt5⟩ := hcut
        cases bb
        · obtain ⟨hok, hasc⟩ := hno rfl
          have Hok := Lib.hid (show stepOk ss[k].name ss[k].after = true ∧ (0 < k → blt (ss[k - 1]'(by omega)).name ss[k].name = true) from ⟨hok, hasc⟩)
          clear hok hasc hyes hno
          obtain ⟨y0, y1⟩ := id hbox5
          obtain ⟨v0, v1, v2⟩ := id hcb5
          go_wp2_with fail
          go_loopw [5] (fun q wx => ∃ n : Nat, n ≤ ss[k].after.length ∧ q = .int .i64 n ∧ Below w.heap.size w wx ∧ Cell2 wx w.heap.size (.int .i64 ver) (.slice (some ad) ss.length c) ∧
            Cell3 wx wo.heap.size (.string ss[k].name) (.slice A1 ss[k].after.length c1) (.bool ss[k].undo) ∧ ∀ j (h : j < ss[k].after.length), j < n → ss[k].after[j] ∈ names ss) (fun q _ => ss[k].after.length - (intOf q).toNat)
          case atStart => exact ⟨0, Nat.zero_le _, rfl, hb5, hbox5, hcb5, fun j hj h => absurd h (by omega)⟩
          case round =>
            clear y0 y1 v0 v1 v2 hbox5 hcb5 hb5
            obtain ⟨n, hn, rfl, hb6, hbox6, hcb6, hin0⟩ := hrel
            have hin := Lib.hid hin0
            clear hin0
            obtain ⟨y0, y1⟩ := id hbox6
            obtain ⟨v0, v1, v2⟩ := id hcb6
            have hlen := hs.len
            have hcap := hs.cap
            by_cases hnl : n < ss[k].after.length
            · have hst6 := h.then_ hb6
              have hs6 := hs.keep (w' := wr) fun p hp => (hb6.cell hp).trans (hb.cell hp).symm
              have hi0 : (0 : Int) ≤ n := by omega
              have hi1 : (n : Int) < ss[k].after.length := by omega
              obtain ⟨ad1, rfl, _, hcell⟩ := hs6.at_ hnl
              by_cases hm : ss[k].after[n] ∈ names ss
              · have hp : 0 ≤ place (names ss) ss[k].after[n] := place_mem hm
                have Hm := Lib.hid hm
                clear hm
                go_wp2
                go_quiet ((go_at_call 17; exact quiet_left (l2At_any _ _ _ _ _ _ (hst6.drewN _))))
                go_wp2_with fail
                go_roundw
                case rel => exact ⟨n + 1, by omega, by go_num, bdrewN hb6 _, ⟨y0, y1⟩, ⟨v0, v1, v2⟩, fun j hj h => by
                  by_cases e : j = n
                  · subst e; exact Hm.out
                  · exact hin.out j hj (by omega)⟩
                case measure => simp [intOf]; omega
              · have hp : place (names ss) ss[k].after[n] < 0 := by rw [place_notMem hm]; omega
                have hf := Lib.hid (flowOk_no (ver := ver) (ss := ss) (by
                  rintro ⟨_, _, _, _, _, h6, _⟩
                  have := h6 _ (List.getElem_mem hlt)
                  unfold stepOk2 at this
                  rw [haveAll_bad hnl hm] at this
                  simp at this))
                clear hm
                go_wp2
                go_quiet ((go_at_call 17; exact quiet_left (l2At_any _ _ _ _ _ _ (hst6.drewN _))))
                go_wp2_with fail
                go_ret
                exact ⟨ret_bool hf.out.symm, bdrewN hb6 _⟩
            · have hk2 := Lib.hid (show stepOk2 ss ss[k] = true by
                unfold stepOk2
                rw [Hok.out.1, haveAll_all (fun j hj => hin.out j hj (by omega))]; rfl)
              go_wp2_with fail
              go_roundw
              case rel => exact ⟨k + 1, by omega, by go_num, hb6, hbox6, fun j hj h => by
                by_cases e : j = k
                · subst e; exact ⟨hk2.out, Hok.out.2⟩
                · exact hall.out j hj (by omega)⟩
              case measure => simp [intOf]; omega
        · have hf := Lib.hid (hyes rfl)
          clear hyes hno
          go_wp2_with fail
          go_ret
          exact ⟨ret_bool hf.out.symm, hb5⟩
    · obtain rfl : k = ss.length := by omega
      have hf : 1 ≤ ver → ver ≤ 99 → 1 ≤ ss.length → ss.length ≤ 8 → flowOk ver ss = decide ((ord ss).length = ss.length) := by
        intro a1 a2 a3 a4
        have h6 : ∀ s ∈ ss, stepOk2 ss s = true := by
          intro s hs
          obtain ⟨j, hj, rfl⟩ := List.getElem_of_mem hs
          exact (hall.out j hj hj).1
        have h5 : asc (names ss) = true := asc_iff.2 fun j hj => by
          have hj' : j < ss.length := by rw [names_length] at hj; exact hj
          have := hall.out j hj' hj'
          have e1 := this.1
          unfold stepOk2 stepOk at e1
          simp only [Bool.and_eq_true] at e1
          refine ⟨by rw [names_get hj']; exact e1.1.1.1.1, fun h0 => ?_⟩
          have := this.2 h0
          simpa [names] using this
        by_cases he : (ord ss).length = ss.length
        · rw [decide_eq_true he]
          exact flowOk_iff.2 ⟨a1, a2, a3, a4, h5, h6, he⟩
        · rw [decide_eq_false he]
          exact flowOk_no (by rintro ⟨_, _, _, _, _, _, h7⟩; exact he h7)
      have hne : ∀ s ∈ ss, s.name ≠ ⟨#[]⟩ := by
        intro s hs e
        obtain ⟨j, hj, rfl⟩ := List.getElem_of_mem hs
        have e1 := (hall.out j hj hj).1
        unfold stepOk2 stepOk at e1
        simp only [Bool.and_eq_true] at e1
        have := nameOk_size e1.1.1.1.1
        rw [e] at this
        exact absurd this.1 (by decide)
      have hst := (h.then_ hb).drew
      obtain ⟨y0, y1⟩ := id hbox
      have K1 := fun w' => in_any ver 1 99 w'
      have K2 := fun w' => in_any ss.length 1 8 w'
      by_cases hv : 1 ≤ ver ∧ ver ≤ 99
      · rw [decide_eq_true hv.1, decide_eq_true hv.2] at K1
        by_cases hl8 : 1 ≤ ss.length ∧ ss.length ≤ 8
        · rw [decide_eq_true (show (1 : Int) ≤ ss.length by omega), decide_eq_true (show (ss.length : Int) ≤ 8 by omega)] at K2
          have Hf := Lib.hid (hf hv.1 hv.2 hl8.1 hl8.2)
          have Hne := Lib.hid hne
          clear hf hne hv
          have KO := Lib.hid (l2Order_any A c ss wo.drew _ hst Hne.out hl)
          have HK1 := Lib.hid K1
          have HK2 := Lib.hid K2
          clear K1 K2
          go_wp2_with fail
          go_region_held3 (fun w' => w'.cell? ⟨w.heap.size, 0, none⟩ = some (.int .i64 ver) ∧ w'.cell? ⟨w.heap.size, 1, none⟩ = some (.slice A ss.length c)) (first | assumption | go_keep)
            (first
              | (go_at_call_of 28 (Value.int .i64 ver); (with_reducible refine (HK1.out _).mono ?_); rintro e w' ⟨rfl, rfl⟩)
              | (go_at_call 28; (with_reducible refine (HK2.out _).mono ?_); rintro e w' ⟨rfl, rfl⟩)
              | (go_at_call 29; (with_reducible refine KO.out.mono ?_); rintro e w4 ⟨A4, c4, rfl, ho4, hb4⟩; obtain ⟨z0, z1⟩ := hbox.then_ (w' := w4) ⟨hb4.os, hb4.tape, hb4.output, hb4.size, hb4.block⟩; have hz := And.intro z0 z1))
          go_wp2_with fail
          go_ret
          refine ⟨ret_bool ?_, bthen hb ⟨hb4.os, hb4.tape, hb4.output, hb4.size, hb4.block⟩⟩
          rw [Hf.out]
          by_cases he : (ord ss).length = ss.length
          · simp [he]
          · have he' : ((ord ss).length : Int) ≠ ss.length := by omega
            rw [decide_eq_false he]
            exact beq_eq_false_iff_ne.2 he'
        · have e2 : (decide ((1 : Int) ≤ ss.length) && decide ((ss.length : Int) ≤ 8)) = false := by
            by_cases a1 : (1 : Int) ≤ ss.length
            · simp [show ¬ (ss.length : Int) ≤ 8 by omega]
            · simp [a1]
          rw [e2] at K2
          have Hf := Lib.hid (flowOk_no (ver := ver) (ss := ss) (by omega))
          have HK1 := Lib.hid K1
          have HK2 := Lib.hid K2
          clear K1 K2 hf hne e2
          go_wp2_with fail
          refine wp_region_any (by kernel_rfl) ?_
          change wpAny _ _ _ _ _ _ _ (World.drew _)
          refine wpAny_take (i := 0) (v := ?_) rfl (by kernel_rfl) (by kernel_rfl) (by kernel_rfl) (fun _ _ _ h => h) (Or.inl ⟨by kernel_rfl, ?_⟩) ?_
          rotate_left
          · intro w; go_simp; try with_reducible rfl
          refine wpAny_ready (rs := [1]) (by kernel_rfl) (by simp) ?_
          refine AllReady.cons rfl (fun K hK => ?_) AllReady.nil
          go_simp
          refine hK _ _ ?_
          clear hK K
          refine wpAny_ready (rs := [2]) (by kernel_rfl) (by simp) ?_
          refine AllReady.cons rfl (fun K hK => ?_) AllReady.nil
          go_simp
          (with_reducible refine (HK1.out _).mono ?_)
          rintro e w' ⟨rfl, rfl⟩
          go_simp
          refine hK _ _ ?_
          clear hK K
          refine wpAny_take (i := 3) (v := ?_) rfl (by kernel_rfl) (by kernel_rfl) (by kernel_rfl) (fun _ _ _ h => h) (Or.inl ⟨by kernel_rfl, ?_⟩) ?_
          rotate_left
          · intro w; go_simp; try with_reducible rfl
          refine wpAny_take (i := 4) (v := ?_) rfl (by kernel_rfl) (by kernel_rfl) (by kernel_rfl) (fun _ _ _ h => h) (Or.inl ⟨by kernel_rfl, ?_⟩) ?_
          rotate_left
          · intro w; go_simp; try with_reducible rfl
          refine wpAny_ready (rs := [5]) (by kernel_rfl) (by simp) ?_
          refine AllReady.cons rfl (fun K hK => ?_) AllReady.nil
          go_simp
          refine hK _ _ ?_
          clear hK K
          refine wpAny_take (i := 6) (v := ?_) rfl (by kernel_rfl) (by kernel_rfl) (by kernel_rfl) (fun _ _ _ h => h) (Or.inl ⟨by kernel_rfl, ?_⟩) ?_
          rotate_left
          · intro w; go_simp; try with_reducible rfl
          refine wpAny_ready (rs := [7]) (by kernel_rfl) (by simp) ?_
          refine AllReady.cons rfl (fun K hK => ?_) AllReady.nil
          go_simp
          (with_reducible refine (HK2.out _).mono ?_)
          rintro e w' ⟨rfl, rfl⟩
          go_simp
          refine hK _ _ ?_
          clear hK K
          refine wpAny_take (i := 8) (v := ?_) rfl (by kernel_rfl) (by kernel_rfl) (by kernel_rfl) (fun _ _ _ h => h) (Or.inl ⟨by kernel_rfl, ?_⟩) ?_
          rotate_left
          · intro w; go_simp; try with_reducible rfl
          refine wpAny_take (i := 9) (v := ?_) rfl (by kernel_rfl) (by kernel_rfl) (by kernel_rfl) (fun _ _ _ h => h) (Or.inl ⟨by kernel_rfl, ?_⟩) ?_
          rotate_left
          · intro w; go_simp; try with_reducible rfl
          refine wpAny_take (i := 10) (v := undef) rfl (by kernel_rfl) (by kernel_rfl) (by kernel_rfl) (fun _ _ _ h => h) (Or.inr ⟨by kernel_rfl, rfl⟩) ?_
          refine wpAny_take (i := 11) (v := undef) rfl (by kernel_rfl) (by kernel_rfl) (by kernel_rfl) (fun _ _ _ h => h) (Or.inr ⟨by kernel_rfl, rfl⟩) ?_
          refine wpAny_take (i := 12) (v := undef) rfl (by kernel_rfl) (by kernel_rfl) (by kernel_rfl) (fun _ _ _ h => h) (Or.inr ⟨by kernel_rfl, rfl⟩) ?_
          refine wpAny_take (i := 13) (v := undef) rfl (by kernel_rfl) (by kernel_rfl) (by kernel_rfl) (fun _ _ _ h => h) (Or.inr ⟨by kernel_rfl, rfl⟩) ?_
          refine wpAny_take (i := 14) (v := undef) rfl (by kernel_rfl) (by kernel_rfl) (by kernel_rfl) (fun _ _ _ h => h) (Or.inr ⟨by kernel_rfl, rfl⟩) ?_
          refine wpAny_take (i := 15) (v := undef) rfl (by kernel_rfl) (by kernel_rfl) (by kernel_rfl) (fun _ _ _ h => h) (Or.inr ⟨by kernel_rfl, rfl⟩) ?_
          refine wpAny_take (i := 16) (v := undef) rfl (by kernel_rfl) (by kernel_rfl) (by kernel_rfl) (fun _ _ _ h => h) (Or.inr ⟨by kernel_rfl, rfl⟩) ?_
          refine wpAny_take (i := 17) (v := undef) rfl (by kernel_rfl) (by kernel_rfl) (by kernel_rfl) (fun _ _ _ h => h) (Or.inr ⟨by kernel_rfl, rfl⟩) ?_
          refine wpAny_take (i := 18) (v := ?_) rfl (by kernel_rfl) (by kernel_rfl) (by kernel_rfl) (fun _ _ _ h => h) (Or.inl ⟨by kernel_rfl, ?_⟩) ?_
          rotate_left
          · intro w; go_simp; try with_reducible rfl
          refine wpAny_take (i := 19) (v := ?_) rfl (by kernel_rfl) (by kernel_rfl) (by kernel_rfl) (fun _ _ _ h => h) (Or.inl ⟨by kernel_rfl, ?_⟩) ?_
          rotate_left
          · intro w; go_simp; try with_reducible rfl
          refine wpAny_done (by kernel_rfl) ?_ _
          go_simp
          go_wp2_with fail
          go_ret
          exact ⟨ret_bool Hf.out.symm, hb.drew⟩
      · have e1 : (decide (1 ≤ ver) && decide (ver ≤ 99)) = false := by
          by_cases a1 : 1 ≤ ver
          · simp [show ¬ ver ≤ 99 by omega]
          · simp [a1]
        rw [e1] at K1
        have Hf := Lib.hid (flowOk_no (ver := ver) (ss := ss) (by omega))
        have HK1 := Lib.hid K1
        clear K1 K2 hf hne e1
        go_wp2_with fail
        refine wp_region_any (by kernel_rfl) ?_
        change wpAny _ _ _ _ _ _ _ (World.drew _)
        refine wpAny_take (i := 0) (v := ?_) rfl (by kernel_rfl) (by kernel_rfl) (by kernel_rfl) (fun _ _ _ h => h) (Or.inl ⟨by kernel_rfl, ?_⟩) ?_
        rotate_left
        · intro w; go_simp; try with_reducible rfl
        refine wpAny_ready (rs := [1]) (by kernel_rfl) (by simp) ?_
        refine AllReady.cons rfl (fun K hK => ?_) AllReady.nil
        go_simp
        refine hK _ _ ?_
        clear hK K
        refine wpAny_ready (rs := [2]) (by kernel_rfl) (by simp) ?_
        refine AllReady.cons rfl (fun K hK => ?_) AllReady.nil
        go_simp
        (with_reducible refine (HK1.out _).mono ?_)
        rintro e w' ⟨rfl, rfl⟩
        go_simp
        refine hK _ _ ?_
        clear hK K
        refine wpAny_take (i := 3) (v := ?_) rfl (by kernel_rfl) (by kernel_rfl) (by kernel_rfl) (fun _ _ _ h => h) (Or.inl ⟨by kernel_rfl, ?_⟩) ?_
        rotate_left
        · intro w; go_simp; try with_reducible rfl
        refine wpAny_take (i := 4) (v := undef) rfl (by kernel_rfl) (by kernel_rfl) (by kernel_rfl) (fun _ _ _ h => h) (Or.inr ⟨by kernel_rfl, rfl⟩) ?_
        refine wpAny_take (i := 5) (v := undef) rfl (by kernel_rfl) (by kernel_rfl) (by kernel_rfl) (fun _ _ _ h => h) (Or.inr ⟨by kernel_rfl, rfl⟩) ?_
        refine wpAny_take (i := 6) (v := undef) rfl (by kernel_rfl) (by kernel_rfl) (by kernel_rfl) (fun _ _ _ h => h) (Or.inr ⟨by kernel_rfl, rfl⟩) ?_
        refine wpAny_take (i := 7) (v := undef) rfl (by kernel_rfl) (by kernel_rfl) (by kernel_rfl) (fun _ _ _ h => h) (Or.inr ⟨by kernel_rfl, rfl⟩) ?_
        refine wpAny_take (i := 8) (v := ?_) rfl (by kernel_rfl) (by kernel_rfl) (by kernel_rfl) (fun _ _ _ h => h) (Or.inl ⟨by kernel_rfl, ?_⟩) ?_
        rotate_left
        · intro w; go_simp; try with_reducible rfl
        refine wpAny_take (i := 9) (v := ?_) rfl (by kernel_rfl) (by kernel_rfl) (by kernel_rfl) (fun _ _ _ h => h) (Or.inl ⟨by kernel_rfl, ?_⟩) ?_
        rotate_left
        · intro w; go_simp; try with_reducible rfl
        refine wpAny_take (i := 10) (v := undef) rfl (by kernel_rfl) (by kernel_rfl) (by kernel_rfl) (fun _ _ _ h => h) (Or.inr ⟨by kernel_rfl, rfl⟩) ?_
        refine wpAny_take (i := 11) (v := undef) rfl (by kernel_rfl) (by kernel_rfl) (by kernel_rfl) (fun _ _ _ h => h) (Or.inr ⟨by kernel_rfl, rfl⟩) ?_
        refine wpAny_take (i := 12) (v := undef) rfl (by kernel_rfl) (by kernel_rfl) (by kernel_rfl) (fun _ _ _ h => h) (Or.inr ⟨by kernel_rfl, rfl⟩) ?_
        refine wpAny_take (i := 13) (v := undef) rfl (by kernel_rfl) (by kernel_rfl) (by kernel_rfl) (fun _ _ _ h => h) (Or.inr ⟨by kernel_rfl, rfl⟩) ?_
        refine wpAny_take (i := 14) (v := undef) rfl (by kernel_rfl) (by kernel_rfl) (by kernel_rfl) (fun _ _ _ h => h) (Or.inr ⟨by kernel_rfl, rfl⟩) ?_
        refine wpAny_take (i := 15) (v := undef) rfl (by kernel_rfl) (by kernel_rfl) (by kernel_rfl) (fun _ _ _ h => h) (Or.inr ⟨by kernel_rfl, rfl⟩) ?_
        refine wpAny_take (i := 16) (v := undef) rfl (by kernel_rfl) (by kernel_rfl) (by kernel_rfl) (fun _ _ _ h => h) (Or.inr ⟨by kernel_rfl, rfl⟩) ?_
        refine wpAny_take (i := 17) (v := undef) rfl (by kernel_rfl) (by kernel_rfl) (by kernel_rfl) (fun _ _ _ h => h) (Or.inr ⟨by kernel_rfl, rfl⟩) ?_
        refine wpAny_take (i := 18) (v := ?_) rfl (by kernel_rfl) (by kernel_rfl) (by kernel_rfl) (fun _ _ _ h => h) (Or.inl ⟨by kernel_rfl, ?_⟩) ?_
        rotate_left
        · intro w; go_simp; try with_reducible rfl
        refine wpAny_take (i := 19) (v := ?_) rfl (by kernel_rfl) (by kernel_rfl) (by kernel_rfl) (fun _ _ _ h => h) (Or.inl ⟨by kernel_rfl, ?_⟩) ?_
        rotate_left
        · intro w; go_simp; try with_reducible rfl
        refine wpAny_done (by kernel_rfl) ?_ _
        go_simp
        go_wp2_with fail
        go_ret
        exact ⟨ret_bool Hf.out.symm, hb.drew⟩
end Go.Proofs.Ytdjgpoenlmhonaa
