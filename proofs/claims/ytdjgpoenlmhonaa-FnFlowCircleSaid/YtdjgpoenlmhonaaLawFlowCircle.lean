/- FnFlowCircle returns true for every code. No condition. -/
import Derived.Test.YtdjgpoenlmhonaaArgs
import Derived.Test.YtdjgpoenlmhonaaTexts
import Derived.Test.YtdjgpoenlmhonaaDrawFind
import Derived.Test.YtdjgpoenlmhonaaBehind
import Derived.Test.YtdjgpoenlmhonaaBehindS
import Derived.Test.YtdjgpoenlmhonaaBehindPlain
import Derived.Test.YtdjgpoenlmhonaaFlowValid
import Derived.Test.YtdjgpoenlmhonaaCircle0
namespace Go.Proofs.Ytdjgpoenlmhonaa
set_option linter.unusedVariables false
set_option maxRecDepth 100000
open Go.ChangeShapes Go.WideShapes Go.ChangeAt Go.RowKit

theorem cellF {W0 w' : World} {b : Nat} {x y : Value} (h0 : W0.cell? ⟨b, 0, none⟩ = some x) (h1 : W0.cell? ⟨b, 1, none⟩ = some y) (hb : Below W0.heap.size W0 w') : w'.cell? ⟨b, 0, none⟩ = some x ∧ w'.cell? ⟨b, 1, none⟩ = some y :=
  ⟨(hb.cell (p := ⟨b, 0, none⟩) (World.block_lt_of_cell? W0 _ h0)).trans h0, (hb.cell (p := ⟨b, 1, none⟩) (World.block_lt_of_cell? W0 _ h1)).trans h1⟩
theorem iFV_K (ver : Int) (A : Option Addr) (c n : Nat) (ss : List St) (b : Bool) (w : World) (B : Nat) (h : Sts w B A c ss) (hn : ss.length = n) (hb : flowOk ver ss = b) :
    Calls Try.prog 8 #[.agg #[.int .i64 ver, .slice A n c]] w fun e w' => e = .returned (.bool b) ∧ Below w.heap.size w w' := by
  subst hn hb
  exact iFlowValid_any ver A c ss w B h
theorem FlowBox.then_ {w w' : World} {b : Nat} {x y : Value} (h : FlowBox w b x y) (hb : Below w.heap.size w w') : FlowBox w' b x y := (hb.block b h.lt).trans h
theorem ne_blk {a b : Addr} (h : a.block ≠ b.block) : a ≠ b := fun e => h (congrArg Addr.block e)

set_option maxHeartbeats 8000000 in
theorem flowCircle_law (W : World) (v : Value) (h : IsCode W v) : Calls Try.prog 3 #[v] W fun e W' => e = .returned (.bool true) ∧ Below W.heap.size W W' := by
  obtain ⟨A, c, zs, rfl, hz⟩ := h
  have hl := hz.len
  have hc := hz.cap
  by_cases h20 : 1048576 < zs.length
  · go_enter Try.func3, Try.ntmps3
    go_wp2
    go_ret
    exact ⟨rfl, Below.refl _ _⟩
  go_enter Try.func3, Try.ntmps3
  go_wp2_with fail
  (with_reducible refine (drawFlowBehind_any A c zs W hz).mono ?_)
  rintro e w1 ⟨ver, SA, sc, ss, nm, rfl, hnm, hT, b_1⟩
  have hst := hT.sts
  have h1 := hT.one
  have h6 := hT.six
  have hss : ss.length ≤ 2000000 := by omega
  have Hsm := Lib.hid hT.small
  clear hT
  have hnm9 : nm.size ≤ 9223372036854775807 := by omega
  have st_1 := hst
  clear hst
  go_wp2_with fail
  (with_reducible refine (iFlowBehind_any ver SA sc ss nm _ _ (st_1.alloc (Nat.le_refl _) _) hnm9 hss).mono ?_)
  rintro e w2 ⟨A2, c2, rfl, ho2, hr2⟩
  have hb2 : Below w1.heap.size w1 w2 := bthen ((Below.refl _ _).alloc (Nat.le_refl _) _) hr2
  have st_2 := st_1.then_ hb2
  have qf_2 := (Cell2.new w1 (.int .i64 ver) (.slice SA ss.length sc) 25).then_ hr2
  have b_2 := bthen b_1 hb2
  have z_2 := hb2.size
  clear st_1 b_1 hr2 hb2
  have o_2 := ho2.strs
  clear ho2
  obtain ⟨pf20, pf21⟩ := id qf_2
  go_wp2_with fail
  (with_reducible refine (sFlowBehind_any ver SA sc ss nm _ _ st_2 hss).mono ?_)
  rintro e w3 ⟨A3, c3, rfl, ho3, hr3⟩
  have hb3 : Below w2.heap.size w2 w3 := hr3
  have st_3 := st_2.then_ hb3
  have o_3 := o_2.then_ hb3
  have qf_3 := qf_2.then_ hb3
  have b_3 := bthen b_2 hb3
  have z_3 := hb3.size
  clear st_2 o_2 qf_2 b_2 pf20 pf21 hr3 hb3
  have n_3 := ho3.strs
  clear ho3
  obtain ⟨pf30, pf31⟩ := id qf_3
  go_wp2_with fail
  (with_reducible refine (sameTexts_same A2 A3 c2 c3 (behOut ver ss nm) _ _ _ o_3 n_3).mono ?_)
  rintro e w4 ⟨rfl, hr4⟩
  have hb4 : Below w3.heap.size w3 w4 := hr4
  have st_4 := st_3.then_ hb4
  have o_4 := o_3.then_ hb4
  have n_4 := n_3.then_ hb4
  have qf_4 := qf_3.then_ hb4
  have b_4 := bthen b_3 hb4
  have z_4 := hb4.size
  clear st_3 o_3 n_3 qf_3 b_3 pf30 pf31 hr4 hb4
  by_cases hemp : (behOut ver ss nm).length = 0
  · have hl0 : ((behOut ver ss nm).length : Int) = 0 := by omega
    obtain ⟨pf40, pf41⟩ := id qf_4
    have hnil : behOut ver ss nm = [] := List.eq_nil_of_length_eq_zero hemp
    rw [hnil] at o_4 n_4
    have K0 : Calls Try.prog 7 #[.slice A2 0 c2, .slice A3 0 c3] w4 fun e w' => e = .returned (.bool true) ∧ Below w4.heap.size w4 w' := sameTexts_same A2 A3 c2 c3 [] w4 _ _ o_4 n_4
    have HK0 := Lib.hid K0
    clear K0 hnil o_4 n_4
    go_wp2_with fail
    (with_reducible refine HK0.out.mono ?_)
    rintro e w5 ⟨rfl, hr5⟩
    go_wp2_with fail
    go_ret
    exact ⟨rfl, bthen b_4 hr5⟩
  clear n_4
  have hne0 : (((behOut ver ss nm).length : Int) == 0) = false := beq_eq_false_iff_ne.2 (by omega)
  obtain ⟨x, hx⟩ : ∃ x, x = (behOut ver ss nm)[0]'(by omega) := ⟨_, rfl⟩
  have HC := Lib.hid (show flowOk ver (turned ss nm x) = false from by
    have hm : x ∈ behOut ver ss nm := by rw [hx]; exact List.getElem_mem _
    cases hok : findB ver ss nm
    · rw [behOut_no hok] at hm; cases hm
    · exact beh_circle hok hm)
  have hx9 := o_4.lens 0 (by omega)
  obtain ⟨ad, rfl, had, hxc0⟩ := o_4.at_ (show 0 < (behOut ver ss nm).length by omega)
  have hxc : w4.cell? ad = some (.string x) := by rw [hx]; exact hxc0
  rw [← hx] at hx9
  clear hx hxc0
  have hol := o_4.len
  have hoc := o_4.cap
  have ho0 : (0 : Int) < (behOut ver ss nm).length := by omega
  clear o_4 hemp
  generalize (behOut ver ss nm).length = no at *
  have hno : 0 < no := by omega
  have hfl := qf_4.lt
  obtain ⟨f0, f1⟩ := id qf_4
  have hss0 : 0 < ss.length := by omega
  have hslc := st_4.len
  have hscc := st_4.cap
  have st4' := st_4.fit
  have HSX : Hid (∀ w', Below w4.heap.size w4 w' → w'.cell? ⟨w1.heap.size, 0, none⟩ = some (.int .i64 ver) ∧ w'.cell? ⟨w1.heap.size, 1, none⟩ = some (.slice SA ss.length sc)) := Lib.hid fun w' hb => cellF f0 f1 hb
  have RXA : Hid (RowSts (w4.alloc (.cells #[] 32)).drew w4.heap.size w4.heap.size (some ⟨w4.heap.size, 0, none⟩) 0 []) := Lib.hid (((RowSts.lit0 w4 (w4.heap.size) rfl w4.heap.size)).base_ (by omega)).drew
  have BXA : Hid (Below w4.heap.size w4 (w4.alloc (.cells #[] 32)).drew) := Lib.hid (show Below w4.heap.size w4 (w4.alloc (.cells #[] 32)) from ((Below.refl _ _).alloc (Nat.le_refl _) (.cells #[] 32))).drew
  have TXA : Hid (Sts (w4.alloc (.cells #[] 32)).drew w4.heap.size SA sc ss) := Lib.hid (st4'.below BXA.out)
  have RXAZ : Hid (RowSts ((w4.alloc (.cells #[] 32)).alloc (.cells #[.int .i64 0, .slice none 0 0] 25)).drew w4.heap.size w4.heap.size (some ⟨w4.heap.size, 0, none⟩) 0 []) := Lib.hid ((((RowSts.lit0 w4 (w4.heap.size) rfl w4.heap.size).alloc (by simp) (.cells #[.int .i64 0, .slice none 0 0] 25))).base_ (by omega)).drew
  have BXAZ : Hid (Below w4.heap.size w4 ((w4.alloc (.cells #[] 32)).alloc (.cells #[.int .i64 0, .slice none 0 0] 25)).drew) := Lib.hid (show Below w4.heap.size w4 ((w4.alloc (.cells #[] 32)).alloc (.cells #[.int .i64 0, .slice none 0 0] 25)) from (((Below.refl _ _).alloc (Nat.le_refl _) (.cells #[] 32)).alloc (by simp) (.cells #[.int .i64 0, .slice none 0 0] 25))).drew
  have TXAZ : Hid (Sts ((w4.alloc (.cells #[] 32)).alloc (.cells #[.int .i64 0, .slice none 0 0] 25)).drew w4.heap.size SA sc ss) := Lib.hid (st4'.below BXAZ.out)
  have ZXAZ : Hid (FlowBox ((w4.alloc (.cells #[] 32)).alloc (.cells #[.int .i64 0, .slice none 0 0] 25)).drew (w4.heap.size + 1) (.int .i64 0) (.slice none 0 0)) := Lib.hid (FlowBox.new_at (w4.alloc (.cells #[] 32)) (.int .i64 0) (.slice none 0 0) (w4.heap.size + 1) (by simp))
  have RXZA : Hid (RowSts ((w4.alloc (.cells #[.int .i64 0, .slice none 0 0] 25)).alloc (.cells #[] 32)).drew w4.heap.size w4.heap.size (some ⟨w4.heap.size + 1, 0, none⟩) 0 []) := Lib.hid (((RowSts.lit0 (w4.alloc (.cells #[.int .i64 0, .slice none 0 0] 25)) (w4.heap.size + 1) (by simp) w4.heap.size)).base_ (by omega)).drew
  have BXZA : Hid (Below w4.heap.size w4 ((w4.alloc (.cells #[.int .i64 0, .slice none 0 0] 25)).alloc (.cells #[] 32)).drew) := Lib.hid (show Below w4.heap.size w4 ((w4.alloc (.cells #[.int .i64 0, .slice none 0 0] 25)).alloc (.cells #[] 32)) from (((Below.refl _ _).alloc (Nat.le_refl _) (.cells #[.int .i64 0, .slice none 0 0] 25)).alloc (by simp) (.cells #[] 32))).drew
  have TXZA : Hid (Sts ((w4.alloc (.cells #[.int .i64 0, .slice none 0 0] 25)).alloc (.cells #[] 32)).drew w4.heap.size SA sc ss) := Lib.hid (st4'.below BXZA.out)
  have ZXZA : Hid (FlowBox ((w4.alloc (.cells #[.int .i64 0, .slice none 0 0] 25)).alloc (.cells #[] 32)).drew (w4.heap.size) (.int .i64 0) (.slice none 0 0)) := Lib.hid ((FlowBox.new_at w4 (.int .i64 0) (.slice none 0 0) (w4.heap.size) rfl).al (.cells #[] 32))
  go_upto_region 8 with fail
  go_cut [7] (fun vb wx => CutFlow w4 ver ss vb wx)
  case first =>
    go_wp2_with fail
    go_region_held3 (fun w' => w'.cell? ⟨w1.heap.size, 0, none⟩ = some (.int .i64 ver) ∧ w'.cell? ⟨w1.heap.size, 1, none⟩ = some (.slice SA ss.length sc))
      (exact And.intro (by with_reducible (repeat (first | exact hS7.1 | exact f0 | refine cell_al ?_ _ | refine cell_dr ?_ | refine cell_st (ne_blk (by first | omega | (simp; omega))) ?_))) (by with_reducible (repeat (first | exact hS7.2 | exact f1 | refine cell_al ?_ _ | refine cell_dr ?_ | refine cell_st (ne_blk (by first | omega | (simp; omega))) ?_))))
      (first
        | (refine step_append_row _ rfl (.tmp 37) (.tmp 39) rfl w4.heap.size w4.heap.size (some ⟨w4.heap.size, 0, none⟩) 0 0 [] (by simp [Act.eval]) (Lib.hid rfl) RXA.out (Nat.le_refl _) SA sc ss.length ss (by simp [Act.eval]) (Lib.hid rfl) TXA.out hss0 (by simp; omega) (by simp; try omega) ?_; intro A7 c7 w7 hap; have hB7 := row_after hap BXA.out (by omega); have hrow7 := hap.own; have hS7 := HSX.out _ hB7)
        | (refine step_append_row _ rfl (.tmp 37) (.tmp 39) rfl w4.heap.size w4.heap.size (some ⟨w4.heap.size, 0, none⟩) 0 0 [] (by simp [Act.eval]) (Lib.hid rfl) RXAZ.out (Nat.le_refl _) SA sc ss.length ss (by simp [Act.eval]) (Lib.hid rfl) TXAZ.out hss0 (by simp; omega) (by simp; try omega) ?_; intro A7 c7 w7 hap; have hB7 := row_after hap BXAZ.out (by omega); have hrow7 := hap.own; have hS7 := HSX.out _ hB7; obtain ⟨hZ7, hne7⟩ := box_after hap ZXAZ.out (by omega); obtain ⟨zc0, zc1⟩ := hZ7.cells; have zf := fun i => hZ7.free i)
        | (refine step_append_row _ rfl (.tmp 37) (.tmp 39) rfl w4.heap.size w4.heap.size (some ⟨w4.heap.size + 1, 0, none⟩) 0 0 [] (by simp [Act.eval]) (Lib.hid rfl) RXZA.out (Nat.le_refl _) SA sc ss.length ss (by simp [Act.eval]) (Lib.hid rfl) TXZA.out hss0 (by simp; omega) (by simp; try omega) ?_; intro A7 c7 w7 hap; have hB7 := row_after hap BXZA.out (by omega); have hrow7 := hap.own; have hS7 := HSX.out _ hB7; obtain ⟨hZ7, hne7⟩ := box_after hap ZXZA.out (by omega); obtain ⟨zc0, zc1⟩ := hZ7.cells; have zf := fun i => hZ7.free i))
    all_goals
      go_wp2_with fail
      go_meet
      first
        | exact cutF_box (Lib.hid (by simp)) hB7 hZ7 (by omega) hrow7 hne7
        | exact cutF_last (Lib.hid (by simp)) hB7 hrow7
  case rest =>
    clear HSX RXA BXA TXA RXAZ BXAZ TXAZ ZXAZ RXZA BXZA TXZA ZXZA
    obtain ⟨w8, rfl⟩ : ∃ w8 : World, w8 = wc := ⟨_, rfl⟩
    obtain ⟨xb, A7, c7, rfl, hxb, hxl, hrow, hne, hb8⟩ := hcut
    obtain ⟨rb, rfl, hrl, hrbl, hc7, hc7c⟩ := hrow.form hss0
    have hrne : rb ≠ xb := hne _ rfl
    have hap := Lib.hid (RowAp.of_ hrow (Nat.le_refl _) hb8.size hss0)
    have Hxb := Lib.hid hxb
    have hadw := World.block_lt_of_cell? w4 _ hxc
    clear hrow hne hrbl hxb f0 f1 hfl qf_4 st_4 st4'
    go_wp2_with fail
    go_loopw [8] (fun i wr => ∃ k : Nat, k ≤ ss.length ∧ i = .int .i64 k ∧ Below w4.heap.size w4 wr ∧ FlowBox wr xb (.int .i64 ver) (.slice (some ⟨rb, 0, none⟩) ss.length c7) ∧ RowAp wr rb c7 (turnedTo ss nm x k)) (fun i _ => ss.length - (intOf i).toNat)
    case atStart => exact ⟨0, Nat.zero_le _, rfl, hb8, Hxb.out, by rw [turnedTo_zero]; exact hap.out⟩
    case round =>
      clear Hxb hap
      obtain ⟨wq, rfl⟩ : ∃ wq : World, wq = wr := ⟨_, rfl⟩
      obtain ⟨k, hk, rfl, hb, hxb, hrow⟩ := hrel
      obtain ⟨x0, x1⟩ := hxb.cells
      by_cases hlt : k < ss.length
      · obtain ⟨hn0, ⟨u, hu⟩, hfz⟩ := hrow.at_ (j := k) (by rw [turnedTo_len]; exact hlt)
        rw [turnedTo_get hlt] at hn0
        have hi0 : (0 : Int) ≤ k := by omega
        have hi1 : (k : Int) < ss.length := by omega
        have hxq := (hb.cell (p := ad) hadw).trans hxc
        obtain ⟨s, hs⟩ : ∃ s, s = ss[k].name := ⟨_, rfl⟩
        rw [← hs] at hn0
        by_cases he : s = nm
        · have HY := Lib.hid (show RowAp (((wq.alloc (.cells #[.string x] 9)).setCell ⟨rb, k * 3 + 1, none⟩ (.slice (some ⟨wq.heap.size, 0, none⟩) 1 1))) rb c7 (turnedTo ss nm x (k + 1)) from by
            rw [turnedTo_yes hlt (hs.symm.trans he)]
            have h9 := hrow.store (i := k) (by rw [turnedTo_len]; exact hlt) x hx9
            rw [turnedTo_get hlt] at h9
            exact h9)
          have hq1 : (s.toList == nm.toList) = true := by rw [he]; simp
          have hrbq := hrow.lt
          have hfk := hfz (k * 3 + 1)
          have e0 := cell_al hu (.cells #[.string x] 9)
          have e1 : (wq.alloc (.cells #[.string x] 9)).frozen? ⟨rb, k * 3 + 1, none⟩ = false := (World.frozen?_of_block (Below.heap_alloc wq _ rb hrbq)).trans hfk
          have hneA : (⟨rb, k * 3 + 1, none⟩ : Addr) ≠ ⟨xb, 1, none⟩ := ne_blk (show rb ≠ xb from hrne)
          have hneB : (⟨rb, k * 3 + 1, none⟩ : Addr) ≠ ad := ne_blk (show rb ≠ ad.block by omega)
          have HB := Lib.hid (show Below w4.heap.size w4 ((wq.alloc (.cells #[.string x] 9)).setCell ⟨rb, k * 3 + 1, none⟩ (.slice (some ⟨wq.heap.size, 0, none⟩) 1 1)) from (hb.alloc hb.size _).setCell (show w4.heap.size ≤ rb from hrl) _)
          have HF := Lib.hid (show FlowBox ((wq.alloc (.cells #[.string x] 9)).setCell ⟨rb, k * 3 + 1, none⟩ (.slice (some ⟨wq.heap.size, 0, none⟩) 1 1)) xb (.int .i64 ver) (.slice (some ⟨rb, 0, none⟩) ss.length c7) from (Below.heap_setCell _ _ _ _ (by show xb ≠ rb; exact fun e => hrne e.symm)).trans (hxb.al _))
          clear hrbq hs he hrow hxb hfz
          go_upto_region 13 with fail
          go_region_held3 (fun w' => w'.cell? ⟨xb, 1, none⟩ = some (.slice (some ⟨rb, 0, none⟩) ss.length c7) ∧ w'.cell? ad = some (.string x))
            (exact And.intro (by with_reducible (repeat (first | exact x1 | refine cell_al ?_ _ | refine cell_dr ?_ | refine cell_st hneA ?_))) (by with_reducible (repeat (first | exact hxq | refine cell_al ?_ _ | refine cell_dr ?_ | refine cell_st hneB ?_)))) (fail)
          go_wp2_with fail
          go_roundw
          case rel => exact ⟨k + 1, by omega, by go_num, HB.out.drew, HF.out, HY.out.drew⟩
          case measure => simp [intOf]; omega
        · have hq1 : (s.toList == nm.toList) = false := by
            cases hq : (s.toList == nm.toList)
            · rfl
            · exact absurd (str_eq hq) he
          have HR := Lib.hid (show RowAp wq rb c7 (turnedTo ss nm x (k + 1)) from by rw [turnedTo_no hlt (fun e => he (hs.trans e))]; exact hrow)
          clear he hs
          go_wp2_with fail
          go_roundw
          case rel => exact ⟨k + 1, by omega, by go_num, hb, hxb, HR.out⟩
          case measure => simp [intOf]; omega
      · have hke : k = ss.length := by omega
        subst hke
        have KV := Lib.hid (iFV_K ver (some ⟨rb, 0, none⟩) c7 ss.length _ false wq _ hrow.sts (turnedTo_len _ _ _ _) (by rw [turnedTo_all]; exact HC.out))
        have bW := bthen b_4 hb
        clear hrow
        go_wp2_with fail
        (with_reducible refine KV.out.mono ?_)
        rintro e w9 ⟨rfl, hb9⟩
        go_wp2_with fail
        go_ret
        exact ⟨rfl, bthen bW hb9⟩

set_option maxRecDepth 100000 in
theorem fnFlowCircle_lifted (os : Os) (started : os.Started) (H : Type) (enc : TypeId × Value → H) :
    ReturnsInHanded {} Try.checked os 3 .any (Rows.fnFlowCircleSpec.pre6 enc Try.prog Try.f3 Rows.fnFlowCircleRow.domain false) (Rows.fnFlowCircleSpec.post enc Try.prog Try.f3 false true false false) := by
  refine returnsInHanded_of_change (C := Try.checked) own started (by kernel_rfl) Try.func3
    (ChangeSpec.witness6 (enc := enc) (C := Try.checked) false ⟨#[], #[.slice none 0 0], []⟩ 8 (by kernel_rfl) (by kernel_rfl) (by kernel_rfl) (by kernel_rfl)) ?_
  intro W base args ds gs before hval0 hW _ _
  have hval : ∀ (j : Nat) t v, Try.f3.params[j]? = some t → args[j]? = some v → Value.okWide Try.prog W .any base t v := hval0
  obtain ⟨p, q, hA0, hV, _⟩ := id hW
  have hA : DataW.TrodAll enc Try.prog W 0 (fun _ => true) true Try.f3.params.toList args.toList ds p := hA0
  rw [Try.params3] at hA hval
  obtain ⟨v0, d0, rfl, rfl, h0⟩ := trodAll_one hA
  obtain ⟨rfl, rfl⟩ := trodVars_none hV
  refine (flowCircle_law W v0 (arg_code (hval 0 _ v0 rfl rfl) h0)).mono fun e W' ⟨he, hw⟩ => ?_
  subst he
  exact ⟨_, rfl, law_post laidOut (readable_of (by kernel_rfl)) rfl Try.underlying4 rfl rfl rfl rfl hW hw⟩

theorem fnFlowCircle_holds : Rows.FnFlowCircleSaid :=
  OpenClaim.holds_of_wide 3 Try.f3 rfl rfl rfl rfl rfl rfl rfl ⟨rfl, rfl, rfl, rfl, rfl⟩ rfl rfl rfl rfl rfl (by kernel_rfl) Try.func3 (by kernel_rfl)
    (of_decide_eq_true (by kernel_rfl)) (by unfold Func.isWrapper; rw [if_neg (of_decide_eq_false (by kernel_rfl))]; exact ⟨rfl, rfl⟩)
    (fun os started H enc _ => fnFlowCircle_lifted os started H enc)

end Go.Proofs.Ytdjgpoenlmhonaa
