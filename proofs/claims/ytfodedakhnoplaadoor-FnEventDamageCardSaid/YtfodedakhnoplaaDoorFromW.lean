/- Contract of the program's EventFrom at a text that is no event's line: false. The walk. Condition: as in the contracts of Split and Atoi. -/
import Derived.Test.YtfodedakhnoplaaDoorFrom
import Derived.Test.YtfodedakhnoplaaDoorOrder
import Derived.Deep.RegionWith
import Derived.BigQuiet
namespace Go.Proofs.YtfodedakhnoplaaDoor
set_option linter.unusedVariables false
set_option maxRecDepth 100000
open Go.RowKit

theorem below_drewN {n : Nat} {w w' : World} (h : Below n w w') (k : Nat) : Below n w (w'.drewN k) := ⟨h.os, h.tape, h.output, h.size, h.block⟩

set_option maxHeartbeats 1000000 in
theorem eventFrom_any (s : ByteArray) (hs : s.size < 4294967281) (H : ∀ n k nm, textB n k nm ≠ s) (w : World) (B : Nat) (hL : LaidD B w) (hB : B ≤ w.heap.size) :
    Calls Tryd.prog 12 #[.string s] w fun e w' => e = .returned (.tuple #[.int .i64 0, .agg #[.int .i64 0, .string ⟨#[]⟩], .bool false]) ∧ Below w.heap.size w w' := by
  have hse : s ≠ ⟨#[]⟩ := fun e => H 0 0 ⟨#[]⟩ (by rw [textB_no (by rfl), e])
  have hsn : (s.toList != []) = true := by
    rw [bne_iff_ne]
    intro e
    exact hse (toList_inj (b := ⟨#[]⟩) (by rw [e, ByteArray.toList_eq]))
  have hsn2 : s.toList.isEmpty = false := by cases hq : s.toList with
    | nil => rw [hq] at hsn; cases hsn
    | cons => rfl
  have HH := Lib.hid H
  clear H hse
  go_enter Tryd.func12, Tryd.ntmps12
  go_wp2_with fail
  obtain ⟨wi, hwi⟩ : ∃ wi, wi = w.alloc (.cells #[.int .i64 0, .string ⟨#[]⟩] 26) := ⟨_, rfl⟩
  have hwz0 : wi.heap.size = w.heap.size + 1 := by rw [hwi]; simp
  have hres : wi.heap[w.heap.size]? = some (.cells #[.int .i64 0, .string ⟨#[]⟩] 26 (0, 0)) := by rw [hwi]; exact heap_alloc_new w _
  have hwb : Below w.heap.size w wi := by rw [hwi]; exact (Below.refl _ _).alloc (Nat.le_refl _) _
  rw [← hwi]
  clear hwi
  have Fin := Lib.hid (fun w' (hb : Below wi.heap.size wi w') => show (w'.cell? ⟨w.heap.size, 0, none⟩ = some (.int .i64 0) ∧ w'.cell? ⟨w.heap.size, 1, none⟩ = some (.string ⟨#[]⟩)) ∧ (∀ i, w'.frozen? ⟨w.heap.size, i, none⟩ = false) ∧ Below w.heap.size w (((w'.setCell ⟨w.heap.size, 0, none⟩ (.int .i64 0)).setCell ⟨w.heap.size, 1, none⟩ (.string ⟨#[]⟩))) ∧ Below w.heap.size w w' from by
    have hr := (hb.block w.heap.size (by omega)).trans hres
    refine ⟨⟨by rw [cell_of_row w' w.heap.size 0 _ _ (0, 0) hr]; rfl, by rw [cell_of_row w' w.heap.size 1 _ _ (0, 0) hr]; rfl⟩, fun i => by simp [World.frozen?, hr], ?_, hwb.trans (hb.mono (by omega))⟩
    exact ((hwb.trans (hb.mono (by omega))).setCell (p := ⟨w.heap.size, 0, none⟩) (Nat.le_refl _) _).setCell (p := ⟨w.heap.size, 1, none⟩) (Nat.le_refl _) _)
  have Li := hL.on (hwb.mono hB)
  have hBi : B ≤ wi.heap.size := by omega
  clear hwz0 hres hL
  (with_reducible refine (split_any s hs wi B Li).mono ?_)
  rintro e w1 ⟨b, l, he, hbl, hcells, hsz, hb1⟩
  by_cases h4 : l.length = 4
  · obtain ⟨p0, p1, p2, p3, rfl⟩ : ∃ p0 p1 p2 p3, l = [p0, p1, p2, p3] := by
      match l, h4 with
      | [p0, p1, p2, p3], _ => exact ⟨_, _, _, _, rfl⟩
    have he : e = .returned (.slice (some ⟨b, 0, none⟩) 4 4) := he
    subst he
    have c0 : w1.cell? ⟨b, 0, none⟩ = some (.string p0) := hcells 0 (by simp)
    have c1 : w1.cell? ⟨b, 1, none⟩ = some (.string p1) := hcells 1 (by simp)
    have c2 : w1.cell? ⟨b, 2, none⟩ = some (.string p2) := hcells 2 (by simp)
    have z0 := hsz p0 (by simp)
    have z2 := hsz p2 (by simp)
    have KA := Lib.hid (atoi_any p0 (by omega) w1 B (Li.on (hb1.mono hBi)))
    have hz1 := hb1.size
    clear hcells hsz h4
    go_wp2_with fail
    (with_reducible refine KA.out.mono ?_)
    rintro e w2 ⟨he, hb2⟩
    rcases he with ⟨v, rfl⟩ | ⟨v, N, rfl⟩
    · have hb12 := Lib.hid (bthen hb1 hb2)
      have L2 := Lib.hid (Li.on ((bthen hb1 hb2).mono hBi))
      have hz2 := hb2.size
      have d1 := Lib.hid ((hb2.cell (p := ⟨b, 1, none⟩) hbl).trans c1)
      have d2 := Lib.hid ((hb2.cell (p := ⟨b, 2, none⟩) hbl).trans c2)
      have hbl2 : b < w2.heap.size := by omega
      clear c0 c1 c2 hb1 hb2 KA Li z0
      go_wp2_with fail
      go_loopw [8] (fun i wr => ∃ k : Nat, 1 ≤ k ∧ k ≤ 4 ∧ i = .int .i64 k ∧ Below w2.heap.size w2 wr) (fun i _ => 4 - (intOf i).toNat)
      case atStart => exact ⟨1, by omega, by omega, rfl, Below.refl _ _⟩
      case round =>
        obtain ⟨k, hk1, hk4, rfl, hb⟩ := hrel
        by_cases hlt : k < 4
        · have L3 := L2.out.on (hb.mono (by omega))
          have e1 := (hb.cell (p := ⟨b, 1, none⟩) hbl2).trans d1.out
          have e2 := (hb.cell (p := ⟨b, 2, none⟩) hbl2).trans d2.out
          have hz3 := hb.size
          obtain ⟨ad, c, hg, hgl, hadB, hc4, hws⟩ := L3.toF.words
          have hcell := hws k (by exact hlt)
          obtain ⟨kw, hkw⟩ : ∃ kw, kw = wordsB[k]'(by exact hlt) := ⟨_, rfl⟩
          rw [← hkw] at hcell
          have bx : Below wr.heap.size wr (wr.alloc (.cells #[.int .i64 k, .string p2] 26)) := (Below.refl _ _).alloc (Nat.le_refl _) _
          have q := Cell2.new wr (.int .i64 (k : Int)) (.string p2) 26
          have bw := bthen hb bx
          have KE0 := iEventText_any v k p2 (wr.alloc (.cells #[.int .i64 k, .string p2] 26)).drew B ⟨fun w' hb => (L3.on (bx.mono (by omega))).toF.tab w' ⟨hb.os, hb.tape, hb.output, hb.size, hb.block⟩, (L3.on (bx.mono (by omega))).toF.words⟩ (by have := bw.size; show B ≤ (wr.alloc _).heap.size; omega) (by omega)
          obtain ⟨T, hT⟩ : ∃ T, T = textB v k p2 := ⟨_, rfl⟩
          have hTs : (T.toList == s.toList) = false := by
            cases hq : (T.toList == s.toList)
            · rfl
            · exact absurd (str_eq hq) (hT ▸ HH.out v k p2)
          rw [← hT] at KE0
          have HS := Lib.hid (fun w' (hb' : Below (wr.alloc (.cells #[.int .i64 k, .string p2] 26)).heap.size (wr.alloc (.cells #[.int .i64 k, .string p2] 26)) w') =>
            show w'.cell? ⟨0, 0, none⟩ = some (.slice (some ad) 4 c) ∧ w'.cell? (ad.add k) = some (.string kw) ∧ w'.cell? ⟨b, 1, none⟩ = some (.string p1) ∧ w'.cell? ⟨wr.heap.size, 0, none⟩ = some (.int .i64 k) ∧ w'.cell? ⟨wr.heap.size, 1, none⟩ = some (.string p2) from by
              have hb9 := bthen bx hb'
              obtain ⟨q0, q1⟩ := q.then_ hb'
              exact ⟨(hb9.cell (p := ⟨_, 0, none⟩) (show 0 < wr.heap.size by omega)).trans hg, (hb9.cell (by rw [block_of_add]; omega)).trans hcell, (hb9.cell (p := ⟨b, 1, none⟩) (show b < wr.heap.size by omega)).trans e1, q0, q1⟩)
          have hdr : ∀ {W w' : World} {n : Nat}, Below n W.drew w' → Below n W w' := fun hb => ⟨hb.os, hb.tape, hb.output, hb.size, hb.block⟩
          have hS0 := HS.out _ (show Below (wr.alloc (.cells #[.int .i64 k, .string p2] 26)).heap.size (wr.alloc (.cells #[.int .i64 k, .string p2] 26)) (wr.alloc (.cells #[.int .i64 k, .string p2] 26)).drew from (Below.refl _ _).drew)
          have KE := Lib.hid (KE0.mono (fun e w' h => (⟨h.1, HS.out w' (hdr h.2), bthen bw (hdr h.2)⟩ : e = .returned (.string T) ∧ (w'.cell? ⟨0, 0, none⟩ = some (.slice (some ad) 4 c) ∧ w'.cell? (ad.add k) = some (.string kw) ∧ w'.cell? ⟨b, 1, none⟩ = some (.string p1) ∧ w'.cell? ⟨wr.heap.size, 0, none⟩ = some (.int .i64 k) ∧ w'.cell? ⟨wr.heap.size, 1, none⟩ = some (.string p2)) ∧ Below w2.heap.size w2 w')))
          have HS0 := Lib.hid hS0
          have hbw := Lib.hid bw
          have hi0 : (0 : Int) ≤ k := by omega
          have hi1 : (k : Int) < 4 := by omega
          have HA := Lib.hid (HS.out _ (Below.refl _ _))
          obtain ⟨wa, hwa⟩ : ∃ wa, wa = wr.alloc (.cells #[.int .i64 k, .string p2] 26) := ⟨_, rfl⟩
          rw [← hwa] at HA hbw KE
          have Hwa := Lib.hid hwa
          clear hws hkw hT KE0 HS hS0 HS0 bx bw q hcell hg e1 hb hwa
          go_upto_region 11 with fail
          rw [← Hwa.out]
          obtain ⟨g0, g1, g2, g3, g4⟩ := HA.out
          cases hq : (kw.toList == p1.toList)
          · go_quiet (fail)
            go_wp2_with fail
            go_roundw
            case rel => exact ⟨k + 1, by omega, by omega, by go_num, below_drewN hbw.out _⟩
            case measure => simp [intOf]; omega
          · go_region_held3 (fun w' => w'.cell? ⟨0, 0, none⟩ = some (.slice (some ad) 4 c) ∧ w'.cell? (ad.add k) = some (.string kw) ∧ w'.cell? ⟨b, 1, none⟩ = some (.string p1) ∧ w'.cell? ⟨wr.heap.size, 0, none⟩ = some (.int .i64 k) ∧ w'.cell? ⟨wr.heap.size, 1, none⟩ = some (.string p2))
              (first | exact ⟨g0, g1, g2, g3, g4⟩ | exact hS7)
              ((go_at_call 10; (with_reducible refine KE.out.mono ?_); rintro e w7 ⟨rfl, hS7, hb7⟩))
            go_wp2_with fail
            go_roundw
            case rel => exact ⟨k + 1, by omega, by omega, by go_num, hb7⟩
            case measure => simp [intOf]; omega
        · have hke : k = 4 := by omega
          subst hke
          obtain ⟨⟨r0, r1⟩, rf, hfb, hf2⟩ := Fin.out wr (bthen hb12.out hb)
          have Hf := Lib.hid hfb
          clear hfb hf2
          go_wp2_with fail
          refine bodyPost_ret (v := .tuple #[.int .i64 0, .agg #[.int .i64 0, .string ⟨#[]⟩], .bool false]) (by simp [results, Tryd.results12, go_sem, r0, r1]) rfl ?_
          exact ⟨rfl, Hf.out⟩
    · obtain ⟨⟨r0, r1⟩, rf, hfb, hf2⟩ := Fin.out w2 (bthen hb1 hb2)
      have Hf := Lib.hid hfb
      clear hfb hf2
      go_wp2_with fail
      refine bodyPost_ret (v := .tuple #[.int .i64 0, .agg #[.int .i64 0, .string ⟨#[]⟩], .bool false]) (by simp [results, Tryd.results12, go_sem, r0, r1]) rfl ?_
      exact ⟨rfl, Hf.out⟩
  · subst he
    have h5 : ¬ (l.length : Int) = 4 := by omega
    have h6 : ((l.length : Int) != 4) = true := by simp [h5]
    obtain ⟨⟨r0, r1⟩, rf, hfb, hf2⟩ := Fin.out w1 hb1
    have Hf := Lib.hid hfb
    clear hfb hf2
    go_wp2_with fail
    refine bodyPost_ret (v := .tuple #[.int .i64 0, .agg #[.int .i64 0, .string ⟨#[]⟩], .bool false]) (by simp [results, Tryd.results12, go_sem, r0, r1]) rfl ?_
    exact ⟨rfl, Hf.out⟩
end Go.Proofs.YtfodedakhnoplaaDoor
