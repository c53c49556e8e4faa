/- Contract of RunValid of the program. Condition: at most 2000000 steps. -/
import Derived.Test.YtfkjcldaclkkaaaRuns
import Derived.Deep.QuietTactic
import Derived.BigQuiet
import Derived.Test.YtfkjcldaclkkaaaFlowValid
import Derived.Test.YtfkjcldaclkkaaaRunOuts
namespace Go.Proofs.Ytfkjcldaclkkaaa
set_option linter.unusedVariables false
set_option maxRecDepth 100000
open Go.RowKit


theorem ready_n (ver : Int) (A D : Option Addr) (c d n : Nat) (ss : List St) (done : List ByteArray) (w : World) (B B' : Nat) (hn : Hid (done.length = n)) (h : Sts w B A c ss) (hd : Strs w B' D d done) (hl : ss.length ≤ 2000000) :
    Calls Try.prog 74 #[flowV ver A ss.length c, .slice D n d] w (RetStrs (ready ss done) w) := by
  obtain rfl := hn.out
  exact ready_any ver A D c d ss done w B B' h hd hl

set_option maxHeartbeats 4000000 in
theorem iRunValid_any (ver st : Int) (A D : Option Addr) (c d : Nat) (ss : List St) (done : List ByteArray) (w : World) (B B' : Nat) (h : Sts w B A c ss) (hd : Strs w B' D d done) (hl : ss.length ≤ 2000000) :
    Calls Try.prog 38 #[flowV ver A ss.length c, runV st D done.length d] w fun e w' => e = .returned (.bool (runOk ver ss st done)) ∧ Below w.heap.size w w' := by
  have h1 := h.len
  have h2 := h.cap
  have h3 := hd.len
  have h4 := hd.cap
  have hb0 : Below w.heap.size w ((w.alloc (.cells #[.int .i64 ver, .slice A ss.length c] 25)).alloc (.cells #[.int .i64 st, .slice D done.length d] 52)) := ((Below.refl _ _).alloc (Nat.le_refl _) _).alloc (by simp) _
  have hbf := (Cell2.new w (.int .i64 ver) (.slice A ss.length c) 25).alloc (.cells #[.int .i64 st, .slice D done.length d] 52)
  have hbr : Cell2 ((w.alloc (.cells #[.int .i64 ver, .slice A ss.length c] 25)).alloc (.cells #[.int .i64 st, .slice D done.length d] 52)) (w.heap.size + 1) (.int .i64 st) (.slice D done.length d) := by
    have := Cell2.new (w.alloc (.cells #[.int .i64 ver, .slice A ss.length c] 25)) (.int .i64 st) (.slice D done.length d) 52
    simpa using this
  go_enter Try.func38, Try.ntmps38
  go_wp2_with fail
  (with_reducible refine (iFlowValid_any ver A c ss _ _ (h.then_ hb0)).mono ?_)
  rintro e w1 ⟨rfl, hb1⟩
  have b1 := bthen hb0 hb1
  have qf := hbf.then_ hb1
  have qr := hbr.then_ hb1
  clear hbf hbr hb0
  obtain ⟨f0, f1⟩ := id qf
  obtain ⟨r0, r1⟩ := id qr
  cases hok : flowOk ver ss
  · have hf := Lib.hid (runOk_noFlow (st := st) (done := done) hok)
    clear hok
    go_wp2_with fail
    go_ret
    exact ⟨ret_bool hf.out.symm, b1⟩
  · have Hok := Lib.hid hok
    clear hok
    go_wp2_with fail
    go_loopw [13] (fun i wr => ∃ k : Nat, k ≤ done.length ∧ i = .int .i64 k ∧ Below w1.heap.size w1 wr ∧ ∀ j (hj : j < done.length), j < k → done[j] ∈ ready ss (done.take j)) (fun i _ => done.length - (intOf i).toNat)
    case atStart => exact ⟨0, Nat.zero_le _, rfl, Below.refl _ _, fun j hj h => absurd h (by omega)⟩
    case round =>
      clear f0 f1 r0 r1
      obtain ⟨k, hk, rfl, hb, hall0⟩ := hrel
      have hall := Lib.hid hall0
      clear hall0
      have b2 := bthen b1 hb
      have qf2 := qf.then_ hb
      have qr2 := qr.then_ hb
      obtain ⟨f0, f1⟩ := id qf2
      obtain ⟨r0, r1⟩ := id qr2
      by_cases hlt : k < done.length
      · obtain ⟨ad, rfl, _, hcell⟩ := (hd.then_ b2).at_ hlt
        have hi0 : (0 : Int) ≤ k := by omega
        have hi1 : (k : Int) ≤ d := by omega
        have hi2 : (k : Int) < done.length := by omega
        have K := Lib.hid (ready_n ver A (some ad) c d k ss (done.take k) wr.drew _ _ (Lib.hid (by rw [List.length_take]; omega)) (h.then_ b2).drew (((hd.then_ b2).take k).drew) hl)
        have hS : ∀ w', Below wr.drew.heap.size wr.drew w' → w'.cell? ⟨w.heap.size, 0, none⟩ = some (.int .i64 ver) ∧ w'.cell? ⟨w.heap.size, 1, none⟩ = some (.slice A ss.length c) ∧ w'.cell? ⟨w.heap.size + 1, 1, none⟩ = some (.slice (some ad) done.length d) := fun w' hb =>
          ⟨(qf2.then_ (Below.undrew hb)).c0, (qf2.then_ (Below.undrew hb)).c1, (qr2.then_ (Below.undrew hb)).c1⟩
        have HS := Lib.hid hS
        clear hS
        by_cases hm : done[k] ∈ ready ss (done.take k)
        · have Hm := Lib.hid hm
          clear hm
          go_wp2_with fail
          go_region_held3 (fun w' => w'.cell? ⟨w.heap.size, 0, none⟩ = some (.int .i64 ver) ∧ w'.cell? ⟨w.heap.size, 1, none⟩ = some (.slice A ss.length c) ∧ w'.cell? ⟨w.heap.size + 1, 1, none⟩ = some (.slice (some ad) done.length d))
            (first | exact HS.out _ (Below.refl _ _) | exact hS9)
            (first
              | (go_at_call 74; (with_reducible refine K.out.mono ?_); rintro e w9 ⟨A9, c9, rfl, ho9, hb9⟩; have hS9 := HS.out _ hb9)
              | (go_at_call 61; (with_reducible refine (slContains_any _ _ _ _ _ _ ho9.strs).mono ?_); rintro e w' ⟨rfl, rfl⟩; rw [has_yes Hm.out]))
          have hb9' := bthen hb (Below.undrew hb9)
          go_wp2_with fail
          go_roundw
          case rel => exact ⟨k + 1, by omega, by go_num, hb9', fun j hj h => by
            by_cases e : j = k
            · subst e; exact Hm.out
            · exact hall.out j hj (by omega)⟩
          case measure => simp [intOf]; omega
        · have Hm := Lib.hid hm
          have hf := Lib.hid (runOk_noDone (ver := ver) (st := st) (doneOk_bad hlt hm))
          clear hm
          go_wp2_with fail
          go_region_held3 (fun w' => w'.cell? ⟨w.heap.size, 0, none⟩ = some (.int .i64 ver) ∧ w'.cell? ⟨w.heap.size, 1, none⟩ = some (.slice A ss.length c) ∧ w'.cell? ⟨w.heap.size + 1, 1, none⟩ = some (.slice (some ad) done.length d))
            (first | exact HS.out _ (Below.refl _ _) | exact hS9)
            (first
              | (go_at_call 74; (with_reducible refine K.out.mono ?_); rintro e w9 ⟨A9, c9, rfl, ho9, hb9⟩; have hS9 := HS.out _ hb9)
              | (go_at_call 61; (with_reducible refine (slContains_any _ _ _ _ _ _ ho9.strs).mono ?_); rintro e w' ⟨rfl, rfl⟩; rw [has_no Hm.out]))
          have hb9' := bthen b2 (Below.undrew hb9)
          go_wp2_with fail
          go_ret
          exact ⟨ret_bool hf.out.symm, hb9'⟩
      · have hdone : doneOk ss done = true := doneOk_iff.2 fun i hi => hall.out i hi (by omega)
        have hrun := runOk_st (st := st) Hok.out hdone
        have hlen := doneOk_len hdone
        have hsub := Lib.hid (doneOk_sub hdone)
        have KF := Lib.hid (forth_any ver A D c d ss done wr.drew _ _ (h.then_ b2).drew (hd.then_ b2).drew)
        have KB := Lib.hid (back_any ver A D c d ss done wr.drew _ _ (h.then_ b2).drew (hd.then_ b2).drew hsub)
        have hS : ∀ w', Below wr.drew.heap.size wr.drew w' → w'.cell? ⟨w.heap.size, 0, none⟩ = some (.int .i64 ver) ∧ w'.cell? ⟨w.heap.size, 1, none⟩ = some (.slice A ss.length c) ∧ w'.cell? ⟨w.heap.size + 1, 0, none⟩ = some (.int .i64 st) ∧ w'.cell? ⟨w.heap.size + 1, 1, none⟩ = some (.slice D done.length d) := fun w' hb =>
          ⟨(qf2.then_ (Below.undrew hb)).c0, (qf2.then_ (Below.undrew hb)).c1, (qr2.then_ (Below.undrew hb)).c0, (qr2.then_ (Below.undrew hb)).c1⟩
        have HS := Lib.hid hS
        have hb2' : ∀ w', Below wr.drew.heap.size wr.drew w' → Below w.heap.size w w' := fun w' hb => bthen b2 (Below.undrew hb)
        have HB2 := Lib.hid hb2'
        clear hS hdone hsub hb2'
        by_cases s02 : st = 0 ∨ st = 2
        · have Hfin := Lib.hid ((hrun.trans (stOk_fwd s02)).trans (dec_beq _ _))
          have hst := two_ways (by decide) s02
          clear hrun s02
          rcases forthSt_cases ss done with hf | hf
          all_goals
            rw [hf] at KF Hfin
            clear hf
            rcases hst with ⟨e0, e2⟩ | ⟨e0, e2⟩
            all_goals
              go_wp2_with fail
              go_region_held3 (fun w' => w'.cell? ⟨w.heap.size, 0, none⟩ = some (.int .i64 ver) ∧ w'.cell? ⟨w.heap.size, 1, none⟩ = some (.slice A ss.length c) ∧ w'.cell? ⟨w.heap.size + 1, 0, none⟩ = some (.int .i64 st) ∧ w'.cell? ⟨w.heap.size + 1, 1, none⟩ = some (.slice D done.length d))
                (first | exact HS.out _ (Below.refl _ _) | exact hS9)
                ((go_at_call 75; (with_reducible refine KF.out.mono ?_); rintro e w9 ⟨rfl, hb9⟩; have hS9 := HS.out _ hb9))
              go_wp2_with fail
              go_ret
              exact ⟨ret_bool (Hfin.out.trans (by first | exact e0 | exact e2)).symm, HB2.out _ hb9⟩
        · by_cases s13 : st = 1 ∨ st = 3
          · have n0 : (st == 0) = false := beq_eq_false_iff_ne.2 (fun e => s02 (.inl e))
            have n2 : (st == 2) = false := beq_eq_false_iff_ne.2 (fun e => s02 (.inr e))
            have hst := two_ways (by decide) s13
            have hfin := hrun.trans (stOk_bwd s13)
            rw [dec_beq] at hfin
            have Hfin := Lib.hid hfin
            clear hrun hfin s02 s13
            by_cases hlt2 : done.length < ss.length
            · have hg1 : decide (done.length < ss.length) = true := decide_eq_true hlt2
              have hg2 : decide ((done.length : Int) < (ss.length : Int)) = true := decide_eq_true (by omega)
              rw [hg1, Bool.true_and] at Hfin
              rcases backSt_cases ss done with hf | hf
              all_goals
                rw [hf] at KB Hfin
                clear hf
                rcases hst with ⟨e0, e2⟩ | ⟨e0, e2⟩
                all_goals
                  go_wp2_with fail
                  go_region_held3 (fun w' => w'.cell? ⟨w.heap.size, 0, none⟩ = some (.int .i64 ver) ∧ w'.cell? ⟨w.heap.size, 1, none⟩ = some (.slice A ss.length c) ∧ w'.cell? ⟨w.heap.size + 1, 0, none⟩ = some (.int .i64 st) ∧ w'.cell? ⟨w.heap.size + 1, 1, none⟩ = some (.slice D done.length d))
                    (first | exact HS.out _ (Below.refl _ _) | exact hS9)
                    ((go_at_call 76; (with_reducible refine KB.out.mono ?_); rintro e w9 ⟨rfl, hb9⟩; have hS9 := HS.out _ hb9))
                  go_wp2_with fail
                  go_ret
                  exact ⟨ret_bool (Hfin.out.trans (by first | exact e0 | exact e2)).symm, HB2.out _ hb9⟩
            · have hg1 : decide (done.length < ss.length) = false := decide_eq_false hlt2
              have hg2 : decide ((done.length : Int) < (ss.length : Int)) = false := decide_eq_false (by omega)
              rw [hg1, Bool.false_and] at Hfin
              rcases hst with ⟨e0, e2⟩ | ⟨e0, e2⟩
              all_goals
                go_wp2_with fail
                go_quiet (fail)
                go_wp2_with fail
                go_ret
                exact ⟨ret_bool Hfin.out.symm, bdrewN b2 _⟩
          · have n0 : (st == 0) = false := beq_eq_false_iff_ne.2 (fun e => s02 (.inl e))
            have n2 : (st == 2) = false := beq_eq_false_iff_ne.2 (fun e => s02 (.inr e))
            have n1 : (st == 1) = false := beq_eq_false_iff_ne.2 (fun e => s13 (.inl e))
            have n3 : (st == 3) = false := beq_eq_false_iff_ne.2 (fun e => s13 (.inr e))
            have Hfin := Lib.hid (hrun.trans (stOk_other ⟨fun e => s02 (.inl e), fun e => s13 (.inl e), fun e => s02 (.inr e), fun e => s13 (.inr e)⟩))
            clear hrun s02 s13
            go_wp2_with fail
            go_ret
            exact ⟨ret_bool Hfin.out.symm, b2⟩
end Go.Proofs.Ytfkjcldaclkkaaa
