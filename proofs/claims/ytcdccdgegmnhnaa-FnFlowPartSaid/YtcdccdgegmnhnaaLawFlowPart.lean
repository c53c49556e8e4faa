/- FnFlowPart returns true for every code. No condition. -/
import Derived.Test.YtcdccdgegmnhnaaArgs
import Derived.Test.YtcdccdgegmnhnaaFlowPart0
import Derived.Test.YtcdccdgegmnhnaaDrawFlows
import Derived.Test.YtcdccdgegmnhnaaFlowValid
import Derived.Test.YtcdccdgegmnhnaaSpecFlowValid
import Derived.Test.YtcdccdgegmnhnaaFlowValidPlain
namespace Go.Proofs.Ytcdccdgegmnhnaa
set_option linter.unusedVariables false
set_option maxRecDepth 100000
open Go.ChangeShapes Go.WideShapes Go.ChangeAt Go.RowKit

theorem cellF {W0 w' : World} {b : Nat} {x y : Value} (h0 : W0.cell? ⟨b, 0, none⟩ = some x) (h1 : W0.cell? ⟨b, 1, none⟩ = some y) (hb : Below W0.heap.size W0 w') : w'.cell? ⟨b, 0, none⟩ = some x ∧ w'.cell? ⟨b, 1, none⟩ = some y :=
  ⟨(hb.cell (p := ⟨b, 0, none⟩) (World.block_lt_of_cell? W0 _ h0)).trans h0, (hb.cell (p := ⟨b, 1, none⟩) (World.block_lt_of_cell? W0 _ h1)).trans h1⟩
theorem iFV_K (ver : Int) (A : Option Addr) (c n : Nat) (ss : List St) (b : Bool) (w : World) (B : Nat) (h : Sts w B A c ss) (hn : ss.length = n) (hb : flowOk ver ss = b) :
    Calls Try.prog 29 #[.agg #[.int .i64 ver, .slice A n c]] w fun e w' => e = .returned (.bool b) ∧ Below w.heap.size w w' := by
  subst hn hb
  exact iFlowValid_any ver A c ss w B h
/-- What lies when the first step of the copy comes after another name. -/
theorem part_x {w3 w8 : World} {ver : Int} {ss : List St} {xb rb c7 : Nat} {x : ByteArray} (hx : x.size ≤ 9223372036854775807) (hss0 : 0 < ss.length) (hb8 : Below w3.heap.size w3 w8) (hrow : RowSts w8 w3.heap.size w3.heap.size (some ⟨rb, 0, none⟩) c7 ss) (hxb : FlowBox w8 xb (.int .i64 ver) (.slice (some ⟨rb, 0, none⟩) ss.length c7)) (hne : rb ≠ xb) :
    Below w3.heap.size w3 ((w8.alloc (.cells #[.string x] 9)).setCell ⟨rb, 1, none⟩ (.slice (some ⟨w8.heap.size, 0, none⟩) 1 1)) ∧
    Sts ((w8.alloc (.cells #[.string x] 9)).setCell ⟨rb, 1, none⟩ (.slice (some ⟨w8.heap.size, 0, none⟩) 1 1)) ((w8.alloc (.cells #[.string x] 9)).setCell ⟨rb, 1, none⟩ (.slice (some ⟨w8.heap.size, 0, none⟩) 1 1)).heap.size (some ⟨rb, 0, none⟩) c7 (ss.set 0 { ss[0] with after := [x] }) ∧
    FlowBox ((w8.alloc (.cells #[.string x] 9)).setCell ⟨rb, 1, none⟩ (.slice (some ⟨w8.heap.size, 0, none⟩) 1 1)) xb (.int .i64 ver) (.slice (some ⟨rb, 0, none⟩) ss.length c7) := by
  obtain ⟨b', e, hrl, _⟩ := hrow.form hss0
  injection e with e
  injection e with e
  subst e
  exact ⟨(hb8.alloc hb8.size _).setCell (show w3.heap.size ≤ rb from hrl) _, RowSts.setAfter (i := 0) hrow (Nat.le_refl _) hb8.size hss0 x hx w8.heap.size rfl, (Below.heap_setCell _ _ _ _ (by show xb ≠ rb; exact fun e => hne e.symm)).trans (hxb.al _)⟩
theorem FlowBox.then_ {w w' : World} {b : Nat} {x y : Value} (h : FlowBox w b x y) (hb : Below w.heap.size w w') : FlowBox w' b x y := (hb.block b h.lt).trans h
theorem ne_blk {a b : Addr} (h : a.block ≠ b.block) : a ≠ b := fun e => h (congrArg Addr.block e)

set_option maxHeartbeats 8000000 in
theorem flowPart_law (W : World) (v : Value) (h : IsCode W v) : Calls Try.prog 10 #[v] W fun e W' => e = .returned (.bool true) ∧ Below W.heap.size W W' := by
  obtain ⟨A, c, zs, rfl, hz⟩ := h
  have hl := hz.len
  have hc := hz.cap
  by_cases h20 : 1048576 < zs.length
  · go_enter Try.func10, Try.ntmps10
    go_wp2
    go_ret
    exact ⟨rfl, Below.refl _ _⟩
  go_enter Try.func10, Try.ntmps10
  go_wp2_with fail
  (with_reducible refine (drawFlowValid_any A c zs W hz).mono ?_)
  rintro e w1 ⟨ver, SA, sc, ss, rfl, st1, h1, h6, hsm, b1⟩
  clear hsm
  go_wp2_with fail
  (with_reducible refine (iFlowValid_any ver SA sc ss _ _ (st1.alloc (Nat.le_refl _) _)).mono ?_)
  rintro e w2 ⟨rfl, hr2⟩
  have hb2 : Below w1.heap.size w1 w2 := bthen ((Below.refl _ _).alloc (Nat.le_refl _) _) hr2
  have st2 := st1.then_ hb2
  have q2 := (Cell2.new w1 (.int .i64 ver) (.slice SA ss.length sc) 45).then_ hr2
  have b2 := bthen b1 hb2
  clear st1 b1 hr2 hb2
  obtain ⟨p0, p1⟩ := id q2
  go_wp2_with fail
  (with_reducible refine (sFlowValid_any ver SA sc ss _ _ st2 (by omega)).mono ?_)
  rintro e w3 ⟨rfl, hb3⟩
  have st3 := st2.then_ hb3
  have q3 := q2.then_ hb3
  have b3 := bthen b2 hb3
  clear st2 b2 q2 hb3 p0 p1
  cases hok : flowOk ver ss
  · clear hok
    go_wp2_with fail
    go_ret
    exact ⟨rfl, b3⟩
  have Hok := Lib.hid hok
  clear hok
  have hfl := q3.lt
  obtain ⟨f0, f1⟩ := id q3
  have hss0 : 0 < ss.length := by omega
  have hslc := st3.len
  have hscc := st3.cap
  have st3' := st3.fit
  have HSX : Hid (∀ w', Below w3.heap.size w3 w' → w'.cell? ⟨w1.heap.size, 0, none⟩ = some (.int .i64 ver) ∧ w'.cell? ⟨w1.heap.size, 1, none⟩ = some (.slice SA ss.length sc)) := Lib.hid fun w' hb => cellF f0 f1 hb
  have RXA : Hid (RowSts (w3.alloc (.cells #[] 34)).drew w3.heap.size w3.heap.size (some ⟨w3.heap.size, 0, none⟩) 0 []) := Lib.hid (((RowSts.lit0 w3 (w3.heap.size) rfl w3.heap.size)).base_ (by omega)).drew
  have BXA : Hid (Below w3.heap.size w3 (w3.alloc (.cells #[] 34)).drew) := Lib.hid (show Below w3.heap.size w3 (w3.alloc (.cells #[] 34)) from ((Below.refl _ _).alloc (Nat.le_refl _) (.cells #[] 34))).drew
  have TXA : Hid (Sts (w3.alloc (.cells #[] 34)).drew w3.heap.size SA sc ss) := Lib.hid (st3'.below BXA.out)
  have RXAZ : Hid (RowSts ((w3.alloc (.cells #[] 34)).alloc (.cells #[.int .i64 0, .slice none 0 0] 45)).drew w3.heap.size w3.heap.size (some ⟨w3.heap.size, 0, none⟩) 0 []) := Lib.hid ((((RowSts.lit0 w3 (w3.heap.size) rfl w3.heap.size).alloc (by simp) (.cells #[.int .i64 0, .slice none 0 0] 45))).base_ (by omega)).drew
  have BXAZ : Hid (Below w3.heap.size w3 ((w3.alloc (.cells #[] 34)).alloc (.cells #[.int .i64 0, .slice none 0 0] 45)).drew) := Lib.hid (show Below w3.heap.size w3 ((w3.alloc (.cells #[] 34)).alloc (.cells #[.int .i64 0, .slice none 0 0] 45)) from (((Below.refl _ _).alloc (Nat.le_refl _) (.cells #[] 34)).alloc (by simp) (.cells #[.int .i64 0, .slice none 0 0] 45))).drew
  have TXAZ : Hid (Sts ((w3.alloc (.cells #[] 34)).alloc (.cells #[.int .i64 0, .slice none 0 0] 45)).drew w3.heap.size SA sc ss) := Lib.hid (st3'.below BXAZ.out)
  have ZXAZ : Hid (FlowBox ((w3.alloc (.cells #[] 34)).alloc (.cells #[.int .i64 0, .slice none 0 0] 45)).drew (w3.heap.size + 1) (.int .i64 0) (.slice none 0 0)) := Lib.hid (FlowBox.new_at (w3.alloc (.cells #[] 34)) (.int .i64 0) (.slice none 0 0) (w3.heap.size + 1) (by simp))
  have RXZA : Hid (RowSts ((w3.alloc (.cells #[.int .i64 0, .slice none 0 0] 45)).alloc (.cells #[] 34)).drew w3.heap.size w3.heap.size (some ⟨w3.heap.size + 1, 0, none⟩) 0 []) := Lib.hid (((RowSts.lit0 (w3.alloc (.cells #[.int .i64 0, .slice none 0 0] 45)) (w3.heap.size + 1) (by simp) w3.heap.size)).base_ (by omega)).drew
  have BXZA : Hid (Below w3.heap.size w3 ((w3.alloc (.cells #[.int .i64 0, .slice none 0 0] 45)).alloc (.cells #[] 34)).drew) := Lib.hid (show Below w3.heap.size w3 ((w3.alloc (.cells #[.int .i64 0, .slice none 0 0] 45)).alloc (.cells #[] 34)) from (((Below.refl _ _).alloc (Nat.le_refl _) (.cells #[.int .i64 0, .slice none 0 0] 45)).alloc (by simp) (.cells #[] 34))).drew
  have TXZA : Hid (Sts ((w3.alloc (.cells #[.int .i64 0, .slice none 0 0] 45)).alloc (.cells #[] 34)).drew w3.heap.size SA sc ss) := Lib.hid (st3'.below BXZA.out)
  have ZXZA : Hid (FlowBox ((w3.alloc (.cells #[.int .i64 0, .slice none 0 0] 45)).alloc (.cells #[] 34)).drew (w3.heap.size) (.int .i64 0) (.slice none 0 0)) := Lib.hid ((FlowBox.new_at w3 (.int .i64 0) (.slice none 0 0) (w3.heap.size) rfl).al (.cells #[] 34))
  go_upto_region 8 with fail
  go_cut [6] (fun vb wx => CutFlow w3 ver ss vb wx)
  case first =>
    go_wp2_with fail
    go_region_held3 (fun w' => w'.cell? ⟨w1.heap.size, 0, none⟩ = some (.int .i64 ver) ∧ w'.cell? ⟨w1.heap.size, 1, none⟩ = some (.slice SA ss.length sc))
      (exact And.intro (by with_reducible (repeat (first | exact hS7.1 | exact f0 | refine cell_al ?_ _ | refine cell_dr ?_ | refine cell_st (ne_blk (by first | omega | (simp; omega))) ?_))) (by with_reducible (repeat (first | exact hS7.2 | exact f1 | refine cell_al ?_ _ | refine cell_dr ?_ | refine cell_st (ne_blk (by first | omega | (simp; omega))) ?_))))
      (first
        | (refine step_append_row _ rfl (.tmp 30) (.tmp 32) rfl w3.heap.size w3.heap.size (some ⟨w3.heap.size, 0, none⟩) 0 0 [] (by simp [Act.eval]) (Lib.hid rfl) RXA.out (Nat.le_refl _) SA sc ss.length ss (by simp [Act.eval]) (Lib.hid rfl) TXA.out hss0 (by simp; omega) (by simp; try omega) ?_; intro A7 c7 w7 hap; have hB7 := row_after hap BXA.out (by omega); have hrow7 := hap.own; have hS7 := HSX.out _ hB7)
        | (refine step_append_row _ rfl (.tmp 30) (.tmp 32) rfl w3.heap.size w3.heap.size (some ⟨w3.heap.size, 0, none⟩) 0 0 [] (by simp [Act.eval]) (Lib.hid rfl) RXAZ.out (Nat.le_refl _) SA sc ss.length ss (by simp [Act.eval]) (Lib.hid rfl) TXAZ.out hss0 (by simp; omega) (by simp; try omega) ?_; intro A7 c7 w7 hap; have hB7 := row_after hap BXAZ.out (by omega); have hrow7 := hap.own; have hS7 := HSX.out _ hB7; obtain ⟨hZ7, hne7⟩ := box_after hap ZXAZ.out (by omega); obtain ⟨zc0, zc1⟩ := hZ7.cells; have zf := fun i => hZ7.free i)
        | (refine step_append_row _ rfl (.tmp 30) (.tmp 32) rfl w3.heap.size w3.heap.size (some ⟨w3.heap.size + 1, 0, none⟩) 0 0 [] (by simp [Act.eval]) (Lib.hid rfl) RXZA.out (Nat.le_refl _) SA sc ss.length ss (by simp [Act.eval]) (Lib.hid rfl) TXZA.out hss0 (by simp; omega) (by simp; try omega) ?_; intro A7 c7 w7 hap; have hB7 := row_after hap BXZA.out (by omega); have hrow7 := hap.own; have hS7 := HSX.out _ hB7; obtain ⟨hZ7, hne7⟩ := box_after hap ZXZA.out (by omega); obtain ⟨zc0, zc1⟩ := hZ7.cells; have zf := fun i => hZ7.free i))
    all_goals
      go_wp2_with fail
      go_meet
      first
        | exact cutF_box (Lib.hid (by simp)) hB7 hZ7 (by omega) hrow7 hne7
        | exact cutF_last (Lib.hid (by simp)) hB7 hrow7
  case rest =>
    clear HSX RXA BXA TXA RXAZ BXAZ TXAZ ZXAZ RXZA BXZA TXZA ZXZA
    obtain ⟨w8, rfl⟩ : ∃ w8 : World, w8 = wc := ⟨_, rfl⟩
    obtain ⟨xb, A7, c7, rfl, hxb, hxl, hrow, hne, hb8⟩ := hcut
    obtain ⟨rb, rfl, hrl, hrbl, hc7, hc7c⟩ := hrow.form hss0
    have hrne : rb ≠ xb := hne _ rfl
    obtain ⟨x0, x1⟩ := hxb.cells
    obtain ⟨e0, ⟨A', c', e1, _⟩, _, efz⟩ := hrow.cells 0 hss0
    have e1' : w8.cell? ⟨rb, 1, none⟩ = some (.slice A' ss[0].after.length c') := e1
    have ef := efz 1
    have e2 := cell_al e1' (.cells #[.string ⟨#[122, 122, 122, 122, 122]⟩] 9)
    have e3 : (w8.alloc (.cells #[.string ⟨#[122, 122, 122, 122, 122]⟩] 9)).frozen? ⟨rb, 1, none⟩ = false := (World.frozen?_of_block (Below.heap_alloc w8 _ rb hrbl)).trans ef
    have x2 := cell_al x0 (.cells #[.string ⟨#[122, 122, 122, 122, 122]⟩] 9)
    have x3 := cell_al x1 (.cells #[.string ⟨#[122, 122, 122, 122, 122]⟩] 9)
    have PX := part_x (x := ⟨#[122, 122, 122, 122, 122]⟩) (by decide) hss0 hb8 hrow hxb hrne
    obtain ⟨hb9, sx9, bx9⟩ := PX
    have st9 := (st3.then_ hb9).fit
    have q9 := q3.then_ hb9
    have b9 := bthen b3 hb9
    have hxbl := Lib.hid hxb.lt
    have Hrbl := Lib.hid hrbl
    have hi0 : (0 : Int) < ss.length := by omega
    clear e0 e1 efz hrow hxb hne hrl hrbl st3 st3' q3 b3 hb8 hxl
    go_upto_region 10 with fail
    clear e1' ef e2 e3 x0 x1 x2 x3 hfl f0 f1
    generalize ((w8.alloc (.cells #[.string ⟨#[122, 122, 122, 122, 122]⟩] 9)).setCell ⟨rb, 1, none⟩ (.slice (some ⟨w8.heap.size, 0, none⟩) 1 1)) = w9 at *
    obtain ⟨ad, A0, c0, rfl, had, g0, g1, g2, hs9⟩ := st9.at_ hss0
    have hsz9 := st9.lens 0 hss0
    have g0 : w9.cell? ad = some (.string ss[0].name) := g0
    have g1 : w9.cell? ⟨ad.block, ad.off + 1, none⟩ = some (.slice A0 ss[0].after.length c0) := g1
    have g2 : w9.cell? ⟨ad.block, ad.off + 2, none⟩ = some (.bool ss[0].undo) := g2
    obtain ⟨s0, hs0⟩ : ∃ s0, s0 = ss[0] := ⟨_, rfl⟩
    have HSS := Lib.hid (show flowOk ver (s0 :: ss) = false by rw [hs0]; exact flowOk_twice hss0)
    rw [← hs0] at g0 g1 g2 hs9 hsz9 sx9
    have Hs0 := Lib.hid hs0
    clear hs0
    obtain ⟨f0, f1⟩ := id q9
    have hfl := q9.lt
    have hadl := World.block_lt_of_cell? w9 _ g0
    have HSY : Hid (∀ w', Below w9.heap.size w9 w' → w'.cell? ⟨w1.heap.size, 0, none⟩ = some (.int .i64 ver) ∧ w'.cell? ⟨w1.heap.size, 1, none⟩ = some (.slice (some ad) ss.length sc) ∧ w'.cell? ad = some (.string s0.name) ∧ w'.cell? ⟨ad.block, ad.off + 1, none⟩ = some (.slice A0 s0.after.length c0) ∧ w'.cell? ⟨ad.block, ad.off + 2, none⟩ = some (.bool s0.undo)) := Lib.hid fun w' hb => ⟨(cellF f0 f1 hb).1, (cellF f0 f1 hb).2, (hb.cell (p := ad) hadl).trans g0, (hb.cell (p := ⟨ad.block, ad.off + 1, none⟩) hadl).trans g1, (hb.cell (p := ⟨ad.block, ad.off + 2, none⟩) hadl).trans g2⟩
    have RYA : Hid (RowSts (w9.alloc (.cells #[.string s0.name, .slice A0 s0.after.length c0, .bool s0.undo] 34)).drew w9.heap.size w9.heap.size (some ⟨w9.heap.size, 0, none⟩) 1 [s0]) := Lib.hid (((RowSts.lit1 w9 (w9.heap.size) rfl w9.heap.size s0 A0 c0 hs9 (Nat.le_refl _) hsz9)).base_ (by omega)).drew
    have BYA : Hid (Below w9.heap.size w9 (w9.alloc (.cells #[.string s0.name, .slice A0 s0.after.length c0, .bool s0.undo] 34)).drew) := Lib.hid (show Below w9.heap.size w9 (w9.alloc (.cells #[.string s0.name, .slice A0 s0.after.length c0, .bool s0.undo] 34)) from ((Below.refl _ _).alloc (Nat.le_refl _) (.cells #[.string s0.name, .slice A0 s0.after.length c0, .bool s0.undo] 34))).drew
    have TYA : Hid (Sts (w9.alloc (.cells #[.string s0.name, .slice A0 s0.after.length c0, .bool s0.undo] 34)).drew w9.heap.size (some ad) sc ss) := Lib.hid (st9.below BYA.out)
    have RYAZ : Hid (RowSts ((w9.alloc (.cells #[.string s0.name, .slice A0 s0.after.length c0, .bool s0.undo] 34)).alloc (.cells #[.int .i64 0, .slice none 0 0] 45)).drew w9.heap.size w9.heap.size (some ⟨w9.heap.size, 0, none⟩) 1 [s0]) := Lib.hid ((((RowSts.lit1 w9 (w9.heap.size) rfl w9.heap.size s0 A0 c0 hs9 (Nat.le_refl _) hsz9).alloc (by simp) (.cells #[.int .i64 0, .slice none 0 0] 45))).base_ (by omega)).drew
    have BYAZ : Hid (Below w9.heap.size w9 ((w9.alloc (.cells #[.string s0.name, .slice A0 s0.after.length c0, .bool s0.undo] 34)).alloc (.cells #[.int .i64 0, .slice none 0 0] 45)).drew) := Lib.hid (show Below w9.heap.size w9 ((w9.alloc (.cells #[.string s0.name, .slice A0 s0.after.length c0, .bool s0.undo] 34)).alloc (.cells #[.int .i64 0, .slice none 0 0] 45)) from (((Below.refl _ _).alloc (Nat.le_refl _) (.cells #[.string s0.name, .slice A0 s0.after.length c0, .bool s0.undo] 34)).alloc (by simp) (.cells #[.int .i64 0, .slice none 0 0] 45))).drew
    have TYAZ : Hid (Sts ((w9.alloc (.cells #[.string s0.name, .slice A0 s0.after.length c0, .bool s0.undo] 34)).alloc (.cells #[.int .i64 0, .slice none 0 0] 45)).drew w9.heap.size (some ad) sc ss) := Lib.hid (st9.below BYAZ.out)
    have ZYAZ : Hid (FlowBox ((w9.alloc (.cells #[.string s0.name, .slice A0 s0.after.length c0, .bool s0.undo] 34)).alloc (.cells #[.int .i64 0, .slice none 0 0] 45)).drew (w9.heap.size + 1) (.int .i64 0) (.slice none 0 0)) := Lib.hid (FlowBox.new_at (w9.alloc (.cells #[.string s0.name, .slice A0 s0.after.length c0, .bool s0.undo] 34)) (.int .i64 0) (.slice none 0 0) (w9.heap.size + 1) (by simp))
    have RYZA : Hid (RowSts ((w9.alloc (.cells #[.int .i64 0, .slice none 0 0] 45)).alloc (.cells #[.string s0.name, .slice A0 s0.after.length c0, .bool s0.undo] 34)).drew w9.heap.size w9.heap.size (some ⟨w9.heap.size + 1, 0, none⟩) 1 [s0]) := Lib.hid (((RowSts.lit1 (w9.alloc (.cells #[.int .i64 0, .slice none 0 0] 45)) (w9.heap.size + 1) (by simp) w9.heap.size s0 A0 c0 (hs9.alloc (Nat.le_refl _) (.cells #[.int .i64 0, .slice none 0 0] 45)) (by simp) hsz9)).base_ (by omega)).drew
    have BYZA : Hid (Below w9.heap.size w9 ((w9.alloc (.cells #[.int .i64 0, .slice none 0 0] 45)).alloc (.cells #[.string s0.name, .slice A0 s0.after.length c0, .bool s0.undo] 34)).drew) := Lib.hid (show Below w9.heap.size w9 ((w9.alloc (.cells #[.int .i64 0, .slice none 0 0] 45)).alloc (.cells #[.string s0.name, .slice A0 s0.after.length c0, .bool s0.undo] 34)) from (((Below.refl _ _).alloc (Nat.le_refl _) (.cells #[.int .i64 0, .slice none 0 0] 45)).alloc (by simp) (.cells #[.string s0.name, .slice A0 s0.after.length c0, .bool s0.undo] 34))).drew
    have TYZA : Hid (Sts ((w9.alloc (.cells #[.int .i64 0, .slice none 0 0] 45)).alloc (.cells #[.string s0.name, .slice A0 s0.after.length c0, .bool s0.undo] 34)).drew w9.heap.size (some ad) sc ss) := Lib.hid (st9.below BYZA.out)
    have ZYZA : Hid (FlowBox ((w9.alloc (.cells #[.int .i64 0, .slice none 0 0] 45)).alloc (.cells #[.string s0.name, .slice A0 s0.after.length c0, .bool s0.undo] 34)).drew (w9.heap.size) (.int .i64 0) (.slice none 0 0)) := Lib.hid ((FlowBox.new_at w9 (.int .i64 0) (.slice none 0 0) (w9.heap.size) rfl).al (.cells #[.string s0.name, .slice A0 s0.after.length c0, .bool s0.undo] 34))
    go_cut [7] (fun vb wx => CutFlow w9 ver (s0 :: ss) vb wx)
    case first =>
      go_wp2_with fail
      go_region_held3 (fun w' => w'.cell? ⟨w1.heap.size, 0, none⟩ = some (.int .i64 ver) ∧ w'.cell? ⟨w1.heap.size, 1, none⟩ = some (.slice (some ad) ss.length sc) ∧ w'.cell? ad = some (.string s0.name) ∧ w'.cell? ⟨ad.block, ad.off + 1, none⟩ = some (.slice A0 s0.after.length c0) ∧ w'.cell? ⟨ad.block, ad.off + 2, none⟩ = some (.bool s0.undo))
        (exact And.intro (by with_reducible (repeat (first | exact hS7.1 | exact f0 | refine cell_al ?_ _ | refine cell_dr ?_ | refine cell_st (ne_blk (by first | omega | (simp; omega))) ?_))) (And.intro (by with_reducible (repeat (first | exact hS7.2.1 | exact f1 | refine cell_al ?_ _ | refine cell_dr ?_ | refine cell_st (ne_blk (by first | omega | (simp; omega))) ?_))) (And.intro (by with_reducible (repeat (first | exact hS7.2.2.1 | exact g0 | refine cell_al ?_ _ | refine cell_dr ?_ | refine cell_st (ne_blk (by first | omega | (simp; omega))) ?_))) (And.intro (by with_reducible (repeat (first | exact hS7.2.2.2.1 | exact g1 | refine cell_al ?_ _ | refine cell_dr ?_ | refine cell_st (ne_blk (by first | omega | (simp; omega))) ?_))) (by with_reducible (repeat (first | exact hS7.2.2.2.2 | exact g2 | refine cell_al ?_ _ | refine cell_dr ?_ | refine cell_st (ne_blk (by first | omega | (simp; omega))) ?_)))))))
        (first
          | (refine step_append_row _ rfl (.tmp 46) (.tmp 48) rfl w9.heap.size w9.heap.size (some ⟨w9.heap.size, 0, none⟩) 1 1 [s0] (by simp [Act.eval]) (Lib.hid rfl) RYA.out (Nat.le_refl _) (some ad) sc ss.length ss (by simp [Act.eval]) (Lib.hid rfl) TYA.out hss0 (by simp; omega) (by simp; try omega) ?_; intro A7 c7 w7 hap; have hB7 := row_after hap BYA.out (by omega); have hrow7 := hap.own; have hS7 := HSY.out _ hB7)
          | (refine step_append_row _ rfl (.tmp 46) (.tmp 48) rfl w9.heap.size w9.heap.size (some ⟨w9.heap.size, 0, none⟩) 1 1 [s0] (by simp [Act.eval]) (Lib.hid rfl) RYAZ.out (Nat.le_refl _) (some ad) sc ss.length ss (by simp [Act.eval]) (Lib.hid rfl) TYAZ.out hss0 (by simp; omega) (by simp; try omega) ?_; intro A7 c7 w7 hap; have hB7 := row_after hap BYAZ.out (by omega); have hrow7 := hap.own; have hS7 := HSY.out _ hB7; obtain ⟨hZ7, hne7⟩ := box_after hap ZYAZ.out (by omega); obtain ⟨zc0, zc1⟩ := hZ7.cells; have zf := fun i => hZ7.free i)
          | (refine step_append_row _ rfl (.tmp 46) (.tmp 48) rfl w9.heap.size w9.heap.size (some ⟨w9.heap.size + 1, 0, none⟩) 1 1 [s0] (by simp [Act.eval]) (Lib.hid rfl) RYZA.out (Nat.le_refl _) (some ad) sc ss.length ss (by simp [Act.eval]) (Lib.hid rfl) TYZA.out hss0 (by simp; omega) (by simp; try omega) ?_; intro A7 c7 w7 hap; have hB7 := row_after hap BYZA.out (by omega); have hrow7 := hap.own; have hS7 := HSY.out _ hB7; obtain ⟨hZ7, hne7⟩ := box_after hap ZYZA.out (by omega); obtain ⟨zc0, zc1⟩ := hZ7.cells; have zf := fun i => hZ7.free i))
      all_goals
        go_wp2_with fail
        go_meet
        first
          | exact cutF_box (Lib.hid (by simp; try omega)) hB7 hZ7 (by omega) hrow7 hne7
          | exact cutF_last (Lib.hid (by simp; try omega)) hB7 hrow7
    case rest =>
      clear HSY RYA BYA TYA RYAZ BYAZ TYAZ ZYAZ RYZA BYZA TYZA ZYZA g0 g1 g2 hs9 hsz9 f0 f1 hadl hfl
      obtain ⟨w10, rfl⟩ : ∃ w10 : World, w10 = wc := ⟨_, rfl⟩
      obtain ⟨yb, A8, c8, rfl, hyb, hyl, hrowy, hney, hb10⟩ := hcut
      have st10 := st9.then_ hb10
      have q10 := q9.then_ hb10
      have sx10 := sx9.then_ hb10
      have bx10 := bx9.then_ hb10
      have b10 := bthen b9 hb10
      have sy10 := hrowy.sts hb10.size (by simp)
      obtain ⟨f0, f1⟩ := id q10
      obtain ⟨x0, x1⟩ := bx10.cells
      obtain ⟨y0, y1⟩ := hyb.cells
      obtain ⟨ad', Al, cl, e, _, g0, _⟩ := st10.at_ (show ss.length - 1 < ss.length by omega)
      injection e with e
      subst e
      obtain ⟨nm, hnm⟩ : ∃ nm, nm = (ss[ss.length - 1]'(by omega)).name := ⟨_, rfl⟩
      rw [← hnm] at g0
      have HX := Lib.hid (show nm ≠ ⟨#[122, 122, 122, 122, 122]⟩ → flowOk ver (ss.set 0 { s0 with after := [⟨#[122, 122, 122, 122, 122]⟩] }) = false from fun h => by rw [Hs0.out]; exact flowOk_far hss0 (last_far Hok.out hss0 (by rw [← hnm]; exact h)))
      clear hnm st9 q9 sx9 bx9 b9 hrowy hney hyl had
      have hi1 : (0 : Int) ≤ (ss.length : Int) - 1 := by omega
      have hi2 : (1 : Int) ≤ ss.length := by omega
      have hi3 : (ss.length : Int) - 1 < ss.length := by omega
      have hi4 : IntKind.i64.wrap ((ss.length : Int) - 1) = (ss.length : Int) - 1 := IntWalk.i64_in _ (by omega)
      have hi5 : ((ss.length : Int) - 1).toNat = ss.length - 1 := by omega
      have KY := Lib.hid (fun w' (hb : Below w10.heap.size w10 w') => iFV_K ver A8 c8 (ss.length + 1) (s0 :: ss) false w' _ (sy10.then_ hb) (by simp) HSS.out)
      have KX := Lib.hid (fun (h : nm ≠ ⟨#[122, 122, 122, 122, 122]⟩) => iFV_K ver (some ⟨rb, 0, none⟩) c7 ss.length _ false w10 _ sx10 (by rw [List.length_set]) (HX.out h))
      have HY := Lib.hid (fun w' (hb : Below w10.heap.size w10 w') => hyb.then_ hb)
      clear sy10 sx10 hyb bx10 q10 HX HSS Hs0
      go_upto_region 12 with fail
      clear f0 f1 g0 hi1 hi2 hi3 hi4 hi5
      by_cases hz : nm = ⟨#[122, 122, 122, 122, 122]⟩
      · subst hz
        go_wp2_with fail
        (with_reducible refine (KY.out _ (Below.refl _ _)).mono ?_)
        rintro e w11 ⟨rfl, hb11⟩
        go_wp2_with fail
        go_ret
        exact ⟨rfl, bthen b10 hb11⟩
      · have KX2 := KX.out hz
        have hz1 : (nm.toList == [122, 122, 122, 122, 122]) = false := by
          cases hq : (nm.toList == [122, 122, 122, 122, 122])
          · rfl
          · exact absurd (str_eq (b := ⟨#[122, 122, 122, 122, 122]⟩) (by rw [show (⟨#[122, 122, 122, 122, 122]⟩ : ByteArray).toList = [122, 122, 122, 122, 122] by rw [ByteArray.toList_eq]]; exact hq)) hz
        clear hz KX
        go_wp2_with fail
        (with_reducible refine KX2.mono ?_)
        rintro e w11 ⟨rfl, hb11⟩
        obtain ⟨y2, y3⟩ := (HY.out _ hb11).cells
        clear x0 x1 y0 y1
        go_wp2_with fail
        (with_reducible refine (KY.out _ hb11).mono ?_)
        rintro e w12 ⟨rfl, hb12⟩
        go_wp2_with fail
        go_ret
        exact ⟨rfl, bthen (bthen b10 hb11) hb12⟩
set_option maxRecDepth 100000 in
theorem fnFlowPart_lifted (os : Os) (started : os.Started) (H : Type) (enc : TypeId × Value → H) :
    ReturnsInHanded {} Try.checked os 10 .any (Rows.fnFlowPartSpec.pre6 enc Try.prog Try.f10 Rows.fnFlowPartRow.domain false) (Rows.fnFlowPartSpec.post enc Try.prog Try.f10 false true false false) := by
  refine returnsInHanded_of_change (C := Try.checked) own started (by kernel_rfl) Try.func10
    (ChangeSpec.witness6 (enc := enc) (C := Try.checked) false ⟨#[], #[.slice none 0 0], []⟩ 8 (by kernel_rfl) (by kernel_rfl) (by kernel_rfl) (by kernel_rfl)) ?_
  intro W base args ds gs before hval0 hW _ _
  have hval : ∀ (j : Nat) t v, Try.f10.params[j]? = some t → args[j]? = some v → Value.okWide Try.prog W .any base t v := hval0
  obtain ⟨p, q, hA0, hV, _⟩ := id hW
  have hA : DataW.TrodAll enc Try.prog W 0 (fun _ => true) true Try.f10.params.toList args.toList ds p := hA0
  rw [Try.params10] at hA hval
  obtain ⟨v0, d0, rfl, rfl, h0⟩ := trodAll_one hA
  obtain ⟨rfl, rfl⟩ := trodVars_none hV
  refine (flowPart_law W v0 (arg_code (hval 0 _ v0 rfl rfl) h0)).mono fun e W' ⟨he, hw⟩ => ?_
  subst he
  exact ⟨_, rfl, law_post laidOut (readable_of (by kernel_rfl)) rfl Try.underlying4 rfl rfl rfl rfl hW hw⟩

theorem fnFlowPart_holds : Rows.FnFlowPartSaid :=
  OpenClaim.holds_of_wide 10 Try.f10 rfl rfl rfl rfl rfl rfl rfl ⟨rfl, rfl, rfl, rfl, rfl⟩ rfl rfl rfl rfl rfl (by kernel_rfl) Try.func10 (by kernel_rfl)
    (of_decide_eq_true (by kernel_rfl)) (by unfold Func.isWrapper; rw [if_neg (of_decide_eq_false (by kernel_rfl))]; exact ⟨rfl, rfl⟩)
    (fun os started H enc _ => fnFlowPart_lifted os started H enc)

end Go.Proofs.Ytcdccdgegmnhnaa
