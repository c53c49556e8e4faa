/- FnEventsRun returns true for every code. No condition. -/
import Derived.Test.YtaelacpkagcffaaArgs
import Derived.Test.YtaelacpkagcffaaRunLaws
import Derived.Test.YtaelacpkagcffaaRunFns
import Derived.Test.YtaelacpkagcffaaSpecRunFns
import Derived.Test.YtaelacpkagcffaaFlowFns
import Derived.Test.YtaelacpkagcffaaTexts
import Derived.Test.YtaelacpkagcffaaRunTexts
import Derived.Test.YtaelacpkagcffaaDrawRuns
import Derived.Test.YtaelacpkagcffaaEvFns
import Derived.Test.YtaelacpkagcffaaDrawEvs
import Derived.Test.YtaelacpkagcffaaSameEv
namespace Go.Proofs.Ytaelacpkagcffaa
set_option linter.unusedVariables false
set_option maxRecDepth 100000
open Go.ChangeShapes Go.WideShapes Go.ChangeAt Go.RowKit

set_option maxHeartbeats 8000000 in
theorem eventsRun_law (W : World) (v : Value) (h : IsCode W v) : Calls Try.prog 12 #[v] W fun e W' => e = .returned (.bool true) ∧ Below W.heap.size W W' := by
  obtain ⟨A, c, zs, rfl, hz⟩ := h
  have hl := hz.len
  have hc := hz.cap
  by_cases h20 : 1048576 < zs.length
  · go_enter Try.func12, Try.ntmps12
    go_wp2
    go_ret
    exact ⟨rfl, Below.refl _ _⟩
  go_enter Try.func12, Try.ntmps12
  go_wp2_with fail
  (with_reducible refine (drawEventsRun_any A c zs W hz).mono ?_)
  rintro e w1 ⟨ver, SA, sc, ss, EA, ec, es, rfl, hel, hes, hT, b_1⟩
  have hst := hT.sts
  have h1 := hT.one
  have h6 := hT.six
  have hss : ss.length ≤ 2000000 := by omega
  clear hT
  have st_1 := hst
  have ev_1 := hes
  clear hst hes
  go_wp2_with fail
  (with_reducible refine (iEventsRun_any ver SA EA sc ec ss es _ _ _ (st_1.alloc2 _) (ev_1.alloc2 _) hss).mono ?_)
  rintro e w2 ⟨A2, c2, rfl, ho2, hr2⟩
  have hb2 : Below w1.heap.size w1 w2 := bthen ((Below.refl _ _).alloc (Nat.le_refl _) _) hr2
  have st_2 := st_1.then_ hb2
  have ev_2 := ev_1.then_ hb2
  have qf_2 := (Cell2.new w1 (.int .i64 ver) (.slice SA ss.length sc) 38).then_ hr2
  have b_2 := bthen b_1 hb2
  have z_2 := hb2.size
  clear st_1 ev_1 b_1 hr2 hb2
  have o_2 := ho2.strs
  clear ho2
  obtain ⟨pf20, pf21⟩ := (qf_2.alloc (.cells #[.int .i64 (erSt ver ss es), .slice A2 (erDone ver ss es).length c2] 33))
  go_wp2_with fail
  (with_reducible refine (sEventsRun_any ver SA EA sc ec ss es _ _ _ (st_2.alloc2 _) (ev_2.alloc2 _) hss).mono ?_)
  rintro e w3 ⟨A3, c3, rfl, ho3, hr3⟩
  have hb3 : Below w2.heap.size w2 w3 := bthen ((Below.refl _ _).alloc (Nat.le_refl _) _) hr3
  have st_3 := st_2.then_ hb3
  have ev_3 := ev_2.then_ hb3
  have o_3 := o_2.then_ hb3
  have qf_3 := qf_2.then_ hb3
  have qo_3 := (Cell2.new w2 (.int .i64 (erSt ver ss es)) (.slice A2 (erDone ver ss es).length c2) 33).then_ hr3
  have b_3 := bthen b_2 hb3
  have z_3 := hb3.size
  clear st_2 ev_2 o_2 qf_2 b_2 pf20 pf21 hr3 hb3
  have n_3 := ho3.strs
  clear ho3
  have hne : (((erN ver ss es : Nat) : Int) != ((erN ver ss es : Nat) : Int)) = false := by simp
  have heq : (((erN ver ss es : Nat) : Int) == ((erN ver ss es : Nat) : Int)) = true := by simp
  cases hok : erB ver ss es
  · clear hok
    obtain ⟨pf30, pf31⟩ := (qf_3.alloc (.cells #[.int .i64 (erSt ver ss es), .slice A3 (erDone ver ss es).length c3] 33))
    obtain ⟨po30, po31⟩ := (qo_3.alloc (.cells #[.int .i64 (erSt ver ss es), .slice A3 (erDone ver ss es).length c3] 33))
    go_wp2_with fail
    (with_reducible refine (sameRun_same (erSt ver ss es) A2 A3 c2 c3 (erDone ver ss es) _ _ _ (o_3.alloc2 _) (n_3.alloc2 _)).mono ?_)
    rintro e w4 ⟨rfl, hr4⟩
    have hb4 : Below w3.heap.size w3 w4 := bthen ((Below.refl _ _).alloc (Nat.le_refl _) _) hr4
    have st_4 := st_3.then_ hb4
    have ev_4 := ev_3.then_ hb4
    have o_4 := o_3.then_ hb4
    have n_4 := n_3.then_ hb4
    have qf_4 := qf_3.then_ hb4
    have qo_4 := qo_3.then_ hb4
    have qn_4 := (Cell2.new w3 (.int .i64 (erSt ver ss es)) (.slice A3 (erDone ver ss es).length c3) 33).then_ hr4
    have b_4 := bthen b_3 hb4
    have z_4 := hb4.size
    clear st_3 ev_3 o_3 n_3 qf_3 qo_3 b_3 pf30 pf31 po30 po31 hr4 hb4
    obtain ⟨pf40, pf41⟩ := id qf_4
    obtain ⟨po40, po41⟩ := id qo_4
    obtain ⟨pn40, pn41⟩ := id qn_4
    go_wp2_with fail
    (with_reducible refine (sameRun_same (erSt ver ss es) A2 A3 c2 c3 (erDone ver ss es) _ _ _ o_4 n_4).mono ?_)
    rintro e w5 ⟨rfl, hr5⟩
    have hb5 : Below w4.heap.size w4 w5 := hr5
    have st_5 := st_4.then_ hb5
    have ev_5 := ev_4.then_ hb5
    have o_5 := o_4.then_ hb5
    have n_5 := n_4.then_ hb5
    have qf_5 := qf_4.then_ hb5
    have qo_5 := qo_4.then_ hb5
    have qn_5 := qn_4.then_ hb5
    have b_5 := bthen b_4 hb5
    have z_5 := hb5.size
    clear st_4 ev_4 o_4 n_4 qf_4 qo_4 qn_4 b_4 pf40 pf41 po40 po41 pn40 pn41 hr5 hb5
    go_wp2_with fail
    go_ret
    exact ⟨rfl, b_5⟩
  have Hok := Lib.hid hok
  clear hok
  obtain ⟨pf30, pf31⟩ := (qf_3.alloc (.cells #[.int .i64 (erSt ver ss es), .slice A3 (erDone ver ss es).length c3] 33))
  obtain ⟨po30, po31⟩ := (qo_3.alloc (.cells #[.int .i64 (erSt ver ss es), .slice A3 (erDone ver ss es).length c3] 33))
  go_wp2_with fail
  (with_reducible refine (sameRun_same (erSt ver ss es) A2 A3 c2 c3 (erDone ver ss es) _ _ _ (o_3.alloc2 _) (n_3.alloc2 _)).mono ?_)
  rintro e w4 ⟨rfl, hr4⟩
  have hb4 : Below w3.heap.size w3 w4 := bthen ((Below.refl _ _).alloc (Nat.le_refl _) _) hr4
  have st_4 := st_3.then_ hb4
  have ev_4 := ev_3.then_ hb4
  have o_4 := o_3.then_ hb4
  have n_4 := n_3.then_ hb4
  have qf_4 := qf_3.then_ hb4
  have qo_4 := qo_3.then_ hb4
  have qn_4 := (Cell2.new w3 (.int .i64 (erSt ver ss es)) (.slice A3 (erDone ver ss es).length c3) 33).then_ hr4
  have b_4 := bthen b_3 hb4
  have z_4 := hb4.size
  clear st_3 ev_3 o_3 n_3 qf_3 qo_3 b_3 pf30 pf31 po30 po31 hr4 hb4
  clear n_4
  clear qn_4
  obtain ⟨pf40, pf41⟩ := id qf_4
  obtain ⟨po40, po41⟩ := id qo_4
  go_wp2_with fail
  (with_reducible refine (iRunNew_any ver SA sc ss _ _ st_4).mono ?_)
  rintro e w5 ⟨A5, c5, rfl, ho5, hr5⟩
  have hb5 : Below w4.heap.size w4 w5 := hr5
  have st_5 := st_4.then_ hb5
  have ev_5 := ev_4.then_ hb5
  have o_5 := o_4.then_ hb5
  have qf_5 := qf_4.then_ hb5
  have qo_5 := qo_4.then_ hb5
  have b_5 := bthen b_4 hb5
  have z_5 := hb5.size
  clear st_4 ev_4 o_4 qf_4 qo_4 b_4 pf40 pf41 po40 po41 hr5 hb5
  have hfo := (erB_iff.1 Hok.out).1
  have hrunv := er_run Hok.out
  have Hmid := Lib.hid (fun (k : Nat) (st : Int) (cu : List ByteArray) (h : evGo ver ss 0 [] es 0 = evGo ver ss st cu (es.drop k) k) => er_mid Hok.out h)
  rw [hfo]
  have H0 := Lib.hid (runOk_new hfo)
  have hnl := erN_le (ver := ver) (ss := ss) (es := es)
  have hevl := ev_5.len
  have hevc := ev_5.cap
  have KV := Lib.hid (fun (wx : World) (hs : Sts wx wx.heap.size SA sc ss) (ho : Strs wx wx.heap.size A2 c2 (erDone ver ss es)) => (iRunValid_any ver (erSt ver ss es) SA A2 sc c2 ss (erDone ver ss es) wx _ _ hs ho hss).mono fun e w' ⟨h1, h2⟩ => (⟨h1.trans (ret_bool hrunv), h2⟩ : e = Ending.returned (.bool true) ∧ Below wx.heap.size wx w'))
  clear hfo hrunv
  generalize erN ver ss es = N at *
  generalize erDone ver ss es = ud at *
  generalize erSt ver ss es = us at *
  have bA : Below w5.heap.size w5 (w5.alloc (.cells #[.int .i64 0, .slice A5 noNames.length c5] 33)) := (Below.refl _ _).alloc (Nat.le_refl _) _
  have rx0 := RBox.new w5 (.int .i64 0) (.slice A5 noNames.length c5)
  have D0 : Strs (w5.alloc (.cells #[.int .i64 0, .slice A5 noNames.length c5] 33)) w5.heap.size A5 c5 noNames := ho5.strs.then_ bA
  have hlf := qf_5.lt
  have hlo := qo_5.lt
  obtain ⟨pf0, pf1⟩ := qf_5.then_ bA
  clear ho5
  go_wp2_with fail
  go_loopw [13] (fun i wr => ∃ (k : Nat) (st : Int) (D : Option Addr) (d : Nat) (cu : List ByteArray), k ≤ N ∧ i = .int .i64 k ∧ Hid (evGo ver ss 0 [] es 0 = evGo ver ss st cu (es.drop k) k) ∧ Below w5.heap.size w5 wr ∧ RBox wr w5.heap.size (.int .i64 st) (.slice D cu.length d) ∧ (Strs wr w5.heap.size D d cu ∨ OwnStrs wr (w5.heap.size + 1) D d cu)) (fun i _ => N - (intOf i).toNat)
  case atStart => exact ⟨0, 0, A5, c5, noNames, Nat.zero_le _, rfl, Lib.hid rfl, bA, rx0, .inl D0⟩
  case round =>
    clear bA rx0 D0 pf0 pf1
    obtain ⟨k, st, D, d, cu, hk, rfl, hgo, hb, rx, hD0⟩ := hrel
    have hD : Strs wr wr.heap.size D d cu := hD0.elim (fun h => h.fit) (fun h => h.strs)
    have hm := Hmid.out k st cu hgo.out
    have qf := qf_5.then_ hb
    have st1 := st_5.then_ hb
    have ev1 := ev_5.then_ hb
    have hbW := bthen b_5 hb
    have hxl := rx.lt
    have hsz := hb.size
    obtain ⟨f0, f1⟩ := id qf
    obtain ⟨x0, x1⟩ := rx.cells
    have xf := fun i => rx.free i
    by_cases hlt : k < N
    · obtain ⟨hkl, hbe⟩ := hm.1 hlt
      have HG := Lib.hid (hgo.out.trans (evGo_step hkl hbe))
      have hi1 : (k : Int) < N := by omega
      obtain ⟨ad, rfl, had, hc0, hcx⟩ := ev1.at_ hkl
      have hns := ev1.lens k hkl
      have hi3 : (0 : Int) ≤ k := by omega
      have hi4 : (k : Int) < es.length := by omega
      obtain ⟨kd, hkd⟩ : ∃ kd, kd = es[k].kind := ⟨_, rfl⟩
      obtain ⟨nm, hnm⟩ : ∃ nm, nm = es[k].name := ⟨_, rfl⟩
      rw [← hkd] at hc0
      rw [← hnm] at hcx hns
      rw [← hkd, ← hnm] at hbe
      have KE : Hid (∀ wx, Below wr.heap.size wr wx → Calls Try.prog 20 #[flowV ver SA ss.length sc, runV st D cu.length d, .agg #[.int .i64 kd, .string nm]] wx (RetRun (evSt ver ss st cu kd nm) (evDone ver ss st cu kd nm) true wx)) := Lib.hid (fun wx hx => by
        have hh := iEventRun_any ver st SA D sc d ss cu kd nm wx _ _ (st1.then_ hx) (hD.then_ hx) hns hss
        rw [hbe] at hh
        exact hh)
      have hS : ∀ wx, Below wr.drew.heap.size wr.drew wx → (wx.cell? ⟨w1.heap.size, 0, none⟩ = some (.int .i64 ver) ∧ wx.cell? ⟨w1.heap.size, 1, none⟩ = some (.slice SA ss.length sc)) ∧ (wx.cell? ⟨w5.heap.size, 0, none⟩ = some (.int .i64 st) ∧ wx.cell? ⟨w5.heap.size, 1, none⟩ = some (.slice D cu.length d)) ∧ wx.cell? (ad.add (k * 2)) = some (.int .i64 kd) ∧ wx.cell? ⟨(ad.add (k * 2)).block, (ad.add (k * 2)).off + 1, none⟩ = some (.string nm) := fun wx hx =>
        have hu := Below.undrew hx
        ⟨⟨(qf.then_ hu).c0, (qf.then_ hu).c1⟩, (rx.then_ hu).cells, (hu.cell (World.block_lt_of_cell? _ _ hc0)).trans hc0, (hu.cell (World.block_lt_of_cell? _ _ hcx)).trans hcx⟩
      have HS2 := Lib.hid hS
      have t0 := Below.refl wr.drew.heap.size wr.drew
      have tA : Below wr.drew.heap.size wr.drew (wr.alloc (.cells #[.int .i64 0, .slice none 0 0] 33)).drew := below_drew ((Below.refl _ _).alloc (Nat.le_refl _) _)
      have bxA : RBox (wr.alloc (.cells #[.int .i64 0, .slice none 0 0] 33)).drew wr.heap.size (.int .i64 0) (.slice none 0 0) := (RBox.new wr _ _).drew
      have S0 := HS2.out _ t0
      have SA0 := HS2.out _ tA
      have hlow : (w1.heap.size < wr.heap.size ∧ w5.heap.size < wr.heap.size) ∧ (ad.add (k * 2)).block < wr.heap.size := ⟨⟨qf.lt, rx.lt⟩, World.block_lt_of_cell? _ _ hc0⟩
      have Hlow := Lib.hid hlow
      rw [← hkd, ← hnm] at HG
      clear hS hlow hc0 hcx hbe hkd hnm hgo hm f0 f1
      go_upto_region 12 with fail
      go_cut [14, 15] (fun vb vo wx => CutRun wr (evSt ver ss st cu kd nm) (evDone ver ss st cu kd nm) wr.heap.size vb wx ∧ vo = .bool true)
      case first =>
        go_region_held3 (fun wx => (wx.cell? ⟨w1.heap.size, 0, none⟩ = some (.int .i64 ver) ∧ wx.cell? ⟨w1.heap.size, 1, none⟩ = some (.slice SA ss.length sc)) ∧ (wx.cell? ⟨w5.heap.size, 0, none⟩ = some (.int .i64 st) ∧ wx.cell? ⟨w5.heap.size, 1, none⟩ = some (.slice D cu.length d)) ∧ wx.cell? (ad.add (k * 2)) = some (.int .i64 kd) ∧ wx.cell? ⟨(ad.add (k * 2)).block, (ad.add (k * 2)).off + 1, none⟩ = some (.string nm))
          (first
            | exact Sb | exact S0 | exact SA0
            | exact And.intro (And.intro (cell_alR Sb.1.1 _) (cell_alR Sb.1.2 _)) (And.intro (And.intro (cell_alR Sb.2.1.1 _) (cell_alR Sb.2.1.2 _)) (And.intro (cell_alR Sb.2.2.1 _) (cell_alR Sb.2.2.2 _)))
            | exact And.intro (And.intro (cell_stR (blk_ne Hlow.out.1.1 (Nat.le_refl _)) (cell_stR (blk_ne Hlow.out.1.1 (Nat.le_refl _)) Sb.1.1)) (cell_stR (blk_ne Hlow.out.1.1 (Nat.le_refl _)) (cell_stR (blk_ne Hlow.out.1.1 (Nat.le_refl _)) Sb.1.2))) (And.intro (And.intro (cell_stR (blk_ne Hlow.out.1.2 (Nat.le_refl _)) (cell_stR (blk_ne Hlow.out.1.2 (Nat.le_refl _)) Sb.2.1.1)) (cell_stR (blk_ne Hlow.out.1.2 (Nat.le_refl _)) (cell_stR (blk_ne Hlow.out.1.2 (Nat.le_refl _)) Sb.2.1.2))) (And.intro (cell_stR (farb_ne Hlow.out.2 (Nat.le_refl _)) (cell_stR (farb_ne Hlow.out.2 (Nat.le_refl _)) Sb.2.2.1)) (cell_stR (farb_ne (p := ⟨(ad.add (k * 2)).block, (ad.add (k * 2)).off + 1, none⟩) Hlow.out.2 (Nat.le_refl _)) (cell_stR (farb_ne (p := ⟨(ad.add (k * 2)).block, (ad.add (k * 2)).off + 1, none⟩) Hlow.out.2 (Nat.le_refl _)) Sb.2.2.2)))))
          (first
            | (go_at_call 20; (with_reducible refine (KE.out _ (Below.undrew tA)).mono ?_); rintro e wb ⟨A7, c7, rfl, ho7, hbb⟩; have tb := bthen tA hbb; have bl := bxA.lt; have bx := bxA.then_ hbb; have bf := fun i => bx.free i; obtain ⟨bc0, bc1⟩ := bx.cells; have Sb := HS2.out _ tb)
            | (go_at_call 20; (with_reducible refine (KE.out _ (Below.undrew t0)).mono ?_); rintro e wb ⟨A7, c7, rfl, ho7, hbb⟩; have tb := bthen t0 hbb; have Sb := HS2.out _ tb))
        all_goals
          go_wp2_with fail
          go_meet
          first
            | exact ⟨cut_early (Below.undrew tb) bx (Nat.le_refl _) (Nat.le_refl _) ho7 bl, rfl⟩
            | exact ⟨cut_last (Below.undrew tb) ho7 (Nat.le_refl _) (Below.undrew tb).size, rfl⟩
      case rest =>
        obtain ⟨w8, rfl⟩ : ∃ w8 : World, w8 = wc := ⟨_, rfl⟩
        obtain ⟨⟨b, A7, c7, rfl, qb, hβ, lb, ho7, hn7, hb8⟩, rfl⟩ := hcut
        generalize evSt ver ss st cu kd nm = st2 at *
        generalize evDone ver ss st cu kd nm = cu2 at *
        have rx3 := rx.then_ hb8
        clear x0 x1 xf
        obtain ⟨x0, x1⟩ := rx3.cells
        have xf := fun i => rx3.free i
        obtain ⟨y0, y1⟩ := qb
        have hxl3 := rx3.lt
        have rN := (rx3.set0 (.int .i64 st2)).set1 (.slice A7 cu2.length c7)
        have hoN := ((ho7.setLow (a := ⟨w5.heap.size, 0, none⟩) hxl (.int .i64 st2)).setLow (a := ⟨w5.heap.size, 1, none⟩) hxl (.slice A7 cu2.length c7)).base_ (base' := w5.heap.size + 1) (by omega)
        have hbN := ((hb.trans (hb8.mono hsz)).setCell (p := ⟨w5.heap.size, 0, none⟩) (Nat.le_refl _) (.int .i64 st2)).setCell (p := ⟨w5.heap.size, 1, none⟩) (by show w5.heap.size ≤ w5.heap.size; omega) (.slice A7 cu2.length c7)
        clear ho7 hb8 KE rx3
        go_wp2_with fail
        go_roundw
        case rel => exact ⟨k + 1, st2, A7, c7, cu2, by omega, by go_num, HG, hbN, rN, .inr hoN⟩
        case measure => simp [intOf]; omega
    · have hke : k = N := by omega
      obtain ⟨e1, e2, hbe0⟩ := hm.2 hke
      have He1 := Lib.hid e1
      have He2 := Lib.hid e2
      clear e1 e2 hm
      have hi1 : ¬ (k : Int) < N := by omega
      have hi2 : decide ((k : Int) < N) = false := decide_eq_false hi1
      by_cases hkl : k < es.length
      · have hbe := hbe0 hkl
        have hkN : N = k := hke.symm
        obtain ⟨ad, rfl, had, hc0, hcx⟩ := ev1.at_ hkl
        have hns := ev1.lens k hkl
        have hi3 : (0 : Int) ≤ k := by omega
        have hi4 : (k : Int) < es.length := by omega
        obtain ⟨kd, hkd⟩ : ∃ kd, kd = es[k].kind := ⟨_, rfl⟩
        obtain ⟨nm, hnm⟩ : ∃ nm, nm = es[k].name := ⟨_, rfl⟩
        rw [← hkd] at hc0
        rw [← hnm] at hcx hns
        rw [← hkd, ← hnm] at hbe
        have KE : Hid (∀ wx, Below wr.heap.size wr wx → Calls Try.prog 20 #[flowV ver SA ss.length sc, runV st D cu.length d, .agg #[.int .i64 kd, .string nm]] wx (RetRun (evSt ver ss st cu kd nm) (evDone ver ss st cu kd nm) false wx)) := Lib.hid (fun wx hx => by
          have hh := iEventRun_any ver st SA D sc d ss cu kd nm wx _ _ (st1.then_ hx) (hD.then_ hx) hns hss
          rw [hbe] at hh
          exact hh)
        have hS : ∀ wx, Below wr.drew.heap.size wr.drew wx → (wx.cell? ⟨w1.heap.size, 0, none⟩ = some (.int .i64 ver) ∧ wx.cell? ⟨w1.heap.size, 1, none⟩ = some (.slice SA ss.length sc)) ∧ (wx.cell? ⟨w5.heap.size, 0, none⟩ = some (.int .i64 st) ∧ wx.cell? ⟨w5.heap.size, 1, none⟩ = some (.slice D cu.length d)) ∧ wx.cell? (ad.add (k * 2)) = some (.int .i64 kd) ∧ wx.cell? ⟨(ad.add (k * 2)).block, (ad.add (k * 2)).off + 1, none⟩ = some (.string nm) := fun wx hx =>
          have hu := Below.undrew hx
          ⟨⟨(qf.then_ hu).c0, (qf.then_ hu).c1⟩, (rx.then_ hu).cells, (hu.cell (World.block_lt_of_cell? _ _ hc0)).trans hc0, (hu.cell (World.block_lt_of_cell? _ _ hcx)).trans hcx⟩
        have HS2 := Lib.hid hS
        have t0 := Below.refl wr.drew.heap.size wr.drew
        have tA : Below wr.drew.heap.size wr.drew (wr.alloc (.cells #[.int .i64 0, .slice none 0 0] 33)).drew := below_drew ((Below.refl _ _).alloc (Nat.le_refl _) _)
        have bxA : RBox (wr.alloc (.cells #[.int .i64 0, .slice none 0 0] 33)).drew wr.heap.size (.int .i64 0) (.slice none 0 0) := (RBox.new wr _ _).drew
        have S0 := HS2.out _ t0
        have SA0 := HS2.out _ tA
        have hlow : (w1.heap.size < wr.heap.size ∧ w5.heap.size < wr.heap.size) ∧ (ad.add (k * 2)).block < wr.heap.size := ⟨⟨qf.lt, rx.lt⟩, World.block_lt_of_cell? _ _ hc0⟩
        have Hlow := Lib.hid hlow
        have hin : ((N : Nat) : Int) < es.length := by omega
        have hind : decide (((N : Nat) : Int) < es.length) = true := decide_eq_true hin
        have hidx : k = N := hkN.symm
        clear hS hlow hc0 hcx hbe hbe0 hkd hnm hgo f0 f1 hkN hke
        subst hidx
        go_upto_region 17 with fail
        go_cut [16, 17] (fun vb vo wx => CutRun wr (evSt ver ss st cu kd nm) (evDone ver ss st cu kd nm) wr.heap.size vb wx ∧ vo = .bool false)
        case first =>
          go_region_held3 (fun wx => (wx.cell? ⟨w1.heap.size, 0, none⟩ = some (.int .i64 ver) ∧ wx.cell? ⟨w1.heap.size, 1, none⟩ = some (.slice SA ss.length sc)) ∧ (wx.cell? ⟨w5.heap.size, 0, none⟩ = some (.int .i64 st) ∧ wx.cell? ⟨w5.heap.size, 1, none⟩ = some (.slice D cu.length d)) ∧ wx.cell? (ad.add (k * 2)) = some (.int .i64 kd) ∧ wx.cell? ⟨(ad.add (k * 2)).block, (ad.add (k * 2)).off + 1, none⟩ = some (.string nm))
            (first
              | exact Sb | exact S0 | exact SA0
              | exact And.intro (And.intro (cell_alR Sb.1.1 _) (cell_alR Sb.1.2 _)) (And.intro (And.intro (cell_alR Sb.2.1.1 _) (cell_alR Sb.2.1.2 _)) (And.intro (cell_alR Sb.2.2.1 _) (cell_alR Sb.2.2.2 _)))
              | exact And.intro (And.intro (cell_stR (blk_ne Hlow.out.1.1 (Nat.le_refl _)) (cell_stR (blk_ne Hlow.out.1.1 (Nat.le_refl _)) Sb.1.1)) (cell_stR (blk_ne Hlow.out.1.1 (Nat.le_refl _)) (cell_stR (blk_ne Hlow.out.1.1 (Nat.le_refl _)) Sb.1.2))) (And.intro (And.intro (cell_stR (blk_ne Hlow.out.1.2 (Nat.le_refl _)) (cell_stR (blk_ne Hlow.out.1.2 (Nat.le_refl _)) Sb.2.1.1)) (cell_stR (blk_ne Hlow.out.1.2 (Nat.le_refl _)) (cell_stR (blk_ne Hlow.out.1.2 (Nat.le_refl _)) Sb.2.1.2))) (And.intro (cell_stR (farb_ne Hlow.out.2 (Nat.le_refl _)) (cell_stR (farb_ne Hlow.out.2 (Nat.le_refl _)) Sb.2.2.1)) (cell_stR (farb_ne (p := ⟨(ad.add (k * 2)).block, (ad.add (k * 2)).off + 1, none⟩) Hlow.out.2 (Nat.le_refl _)) (cell_stR (farb_ne (p := ⟨(ad.add (k * 2)).block, (ad.add (k * 2)).off + 1, none⟩) Hlow.out.2 (Nat.le_refl _)) Sb.2.2.2)))))
            (first
              | (go_at_call 20; (with_reducible refine (KE.out _ (Below.undrew tA)).mono ?_); rintro e wb ⟨A7, c7, rfl, ho7, hbb⟩; have tb := bthen tA hbb; have bl := bxA.lt; have bx := bxA.then_ hbb; have bf := fun i => bx.free i; obtain ⟨bc0, bc1⟩ := bx.cells; have Sb := HS2.out _ tb)
              | (go_at_call 20; (with_reducible refine (KE.out _ (Below.undrew t0)).mono ?_); rintro e wb ⟨A7, c7, rfl, ho7, hbb⟩; have tb := bthen t0 hbb; have Sb := HS2.out _ tb))
          all_goals
            go_wp2_with fail
            go_meet
            first
              | exact ⟨cut_early (Below.undrew tb) bx (Nat.le_refl _) (Nat.le_refl _) ho7 bl, rfl⟩
              | exact ⟨cut_last (Below.undrew tb) ho7 (Nat.le_refl _) (Below.undrew tb).size, rfl⟩
        case rest =>
          obtain ⟨w8, rfl⟩ : ∃ w8 : World, w8 = wc := ⟨_, rfl⟩
          obtain ⟨⟨b, A7, c7, rfl, qb, hβ, lb, ho7, hn7, hb8⟩, rfl⟩ := hcut
          obtain ⟨x0, x1⟩ := (rx.then_ hb8).cells
          have hD8 := hD.then_ hb8
          have hb9 := bthen hb hb8
          have qf9 := qf_5.then_ hb9
          have qo9 := qo_5.then_ hb9
          have st9 := st_5.then_ hb9
          have o9 := o_5.then_ hb9
          rw [He1.out, He2.out] at qo9 KV
          rw [He2.out] at o9
          have hbX := bthen b_5 hb9
          obtain ⟨f0, f1⟩ := id qf9
          obtain ⟨u0, u1⟩ := id qo9
          clear ho7 hb8 KE
          go_wp2_with fail
          (with_reducible refine (sameRun_same st D A2 d c2 cu _ _ _ hD8 o9).mono ?_)
          rintro e wa ⟨rfl, hba⟩
          have st10 := st9.then_ hba
          have o10 := o9.then_ hba
          obtain ⟨f0, f1⟩ := qf9.then_ hba
          obtain ⟨u0, u1⟩ := qo9.then_ hba
          have hbY := bthen hbX hba
          go_wp2_with fail
          (with_reducible refine (KV.out _ st10.fit o10.fit).mono ?_)
          rintro e wz ⟨rfl, hbz⟩
          go_wp2_with fail
          go_ret
          exact ⟨rfl, bthen hbY hbz⟩
      · have hin : ¬ ((N : Nat) : Int) < es.length := by omega
        have hind : decide (((N : Nat) : Int) < es.length) = false := decide_eq_false hin
        have qo9 := qo_5.then_ hb
        have o9 := o_5.then_ hb
        rw [He1.out, He2.out] at qo9 KV
        rw [He2.out] at o9
        obtain ⟨u0, u1⟩ := id qo9
        clear hgo hbe0 hke
        go_wp2_with fail
        (with_reducible refine (sameRun_same st D A2 d c2 cu _ _ _ hD o9).mono ?_)
        rintro e wa ⟨rfl, hba⟩
        have st10 := st1.then_ hba
        have o10 := o9.then_ hba
        clear f0 f1 u0 u1 x0 x1
        obtain ⟨f0, f1⟩ := qf.then_ hba
        obtain ⟨u0, u1⟩ := qo9.then_ hba
        have hbY := bthen hbW hba
        go_wp2_with fail
        (with_reducible refine (KV.out _ st10.fit o10.fit).mono ?_)
        rintro e wz ⟨rfl, hbz⟩
        go_wp2_with fail
        go_ret
        exact ⟨rfl, bthen hbY hbz⟩

set_option maxRecDepth 100000 in
theorem fnEventsRun_lifted (os : Os) (started : os.Started) (H : Type) (enc : TypeId × Value → H) :
    ReturnsInHanded {} Try.checked os 12 .any (Rows.fnEventsRunSpec.pre6 enc Try.prog Try.f12 Rows.fnEventsRunRow.domain false) (Rows.fnEventsRunSpec.post enc Try.prog Try.f12 false true false false) := by
  refine returnsInHanded_of_change (C := Try.checked) own started (by kernel_rfl) Try.func12
    (ChangeSpec.witness6 (enc := enc) (C := Try.checked) false ⟨#[], #[.slice none 0 0], []⟩ 8 (by kernel_rfl) (by kernel_rfl) (by kernel_rfl) (by kernel_rfl)) ?_
  intro W base args ds gs before hval0 hW _ _
  have hval : ∀ (j : Nat) t v, Try.f12.params[j]? = some t → args[j]? = some v → Value.okWide Try.prog W .any base t v := hval0
  obtain ⟨p, q, hA0, hV, _⟩ := id hW
  have hA : DataW.TrodAll enc Try.prog W 0 (fun _ => true) true Try.f12.params.toList args.toList ds p := hA0
  rw [Try.params12] at hA hval
  obtain ⟨v0, d0, rfl, rfl, h0⟩ := trodAll_one hA
  obtain ⟨rfl, rfl⟩ := trodVars_none hV
  refine (eventsRun_law W v0 (arg_code (hval 0 _ v0 rfl rfl) h0)).mono fun e W' ⟨he, hw⟩ => ?_
  subst he
  exact ⟨_, rfl, law_post laidOut (readable_of (by kernel_rfl)) rfl Try.underlying4 rfl rfl rfl rfl hW hw⟩

theorem fnEventsRun_holds : Rows.FnEventsRunSaid :=
  OpenClaim.holds_of_wide 12 Try.f12 rfl rfl rfl rfl rfl rfl rfl ⟨rfl, rfl, rfl, rfl, rfl⟩ rfl rfl rfl rfl rfl (by kernel_rfl) Try.func12 (by kernel_rfl)
    (of_decide_eq_true (by kernel_rfl)) (by unfold Func.isWrapper; rw [if_neg (of_decide_eq_false (by kernel_rfl))]; exact ⟨rfl, rfl⟩)
    (fun os started H enc _ => fnEventsRun_lifted os started H enc)

end Go.Proofs.Ytaelacpkagcffaa
