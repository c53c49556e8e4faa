/- FnRunPart returns true for every code. No condition. -/
import Derived.Test.YtfkjcldaclkkaaaArgs
import Derived.Test.YtfkjcldaclkkaaaRunLaws
import Derived.Test.YtfkjcldaclkkaaaFlowFns
import Derived.Test.YtfkjcldaclkkaaaTexts
import Derived.Test.YtfkjcldaclkkaaaRunTexts
import Derived.Test.YtfkjcldaclkkaaaDrawRuns
import Derived.Test.YtfkjcldaclkkaaaRunValid
import Derived.Test.YtfkjcldaclkkaaaSpecRuns
import Derived.Test.YtfkjcldaclkkaaaDrawRunVal
import Derived.Test.YtfkjcldaclkkaaaCutApp
namespace Go.Proofs.Ytfkjcldaclkkaaa
set_option linter.unusedVariables false
set_option maxRecDepth 100000
open Go.ChangeShapes Go.WideShapes Go.ChangeAt Go.RowKit

set_option maxHeartbeats 16000000 in
theorem runPart_law (W : World) (v : Value) (h : IsCode W v) : Calls Try.prog 10 #[v] W fun e W' => e = .returned (.bool true) ∧ Below W.heap.size W W' := by
  obtain ⟨A, c, zs, rfl, hz⟩ := h
  have hl := hz.len
  have hc := hz.cap
  by_cases h20 : 1048576 < zs.length
  · go_enter Try.func10, Try.ntmps10
    go_wp2
    go_ret
    exact ⟨rfl, Below.refl _ _⟩
  go_enter Try.func10, Try.ntmps10
  go_wp2_with fail
  (with_reducible refine (drawRunValid_any A c zs W hz).mono ?_)
  rintro e w1 ⟨ver, SA, sc, ss, st, D, d, done, rfl, hT, b_1⟩
  have hst := hT.sts
  have hdn := hT.strs
  have h1 := hT.one
  have h6 := hT.six
  have hl7 := hT.len
  have hss : ss.length ≤ 2000000 := by omega
  have hxs6 := Lib.hid hT.sizes
  clear hT
  have st_1 := hst
  have dn_1 := hdn
  clear hst hdn
  go_wp2_with fail
  (with_reducible refine (iRunValid_any ver st SA D sc d ss done _ _ _ ((st_1.alloc2 _).alloc2 _) ((dn_1.alloc2 _).alloc2 _) hss).mono ?_)
  rintro e w2 ⟨rfl, hr2⟩
  have hb2 : Below w1.heap.size w1 w2 := bthen (((Below.refl _ _).alloc (Nat.le_refl _) _).alloc (by simp) _) hr2
  have st_2 := st_1.then_ hb2
  have dn_2 := dn_1.then_ hb2
  have qf_2 := ((Cell2.new w1 (.int .i64 ver) (.slice SA ss.length sc) 25).alloc (.cells #[.int .i64 st, .slice D done.length d] 52)).then_ hr2
  have qr_2 : Cell2 w2 (w1.heap.size + 1) (.int .i64 st) (.slice D done.length d) := by have := (Cell2.new (w1.alloc (.cells #[.int .i64 ver, .slice SA ss.length sc] 25)) (.int .i64 st) (.slice D done.length d) 52).then_ hr2; simpa using this
  have b_2 := bthen b_1 hb2
  have z_2 := hb2.size
  clear st_1 dn_1 b_1 hr2 hb2
  obtain ⟨pf20, pf21⟩ := id qf_2
  obtain ⟨pr20, pr21⟩ := id qr_2
  go_wp2_with fail
  (with_reducible refine (sRunValid_any ver st SA D sc d ss done _ _ _ st_2 dn_2 hss).mono ?_)
  rintro e w3 ⟨rfl, hr3⟩
  have hb3 : Below w2.heap.size w2 w3 := hr3
  have st_3 := st_2.then_ hb3
  have dn_3 := dn_2.then_ hb3
  have qf_3 := qf_2.then_ hb3
  have qr_3 := qr_2.then_ hb3
  have b_3 := bthen b_2 hb3
  have z_3 := hb3.size
  clear st_2 dn_2 qf_2 qr_2 b_2 pf20 pf21 pr20 pr21 hr3 hb3
  cases hok : runOk ver ss st done
  · clear hok
    obtain ⟨pf30, pf31⟩ := id qf_3
    obtain ⟨pr30, pr31⟩ := id qr_3
    go_wp2_with fail
    go_ret
    exact ⟨rfl, b_3⟩
  rcases Nat.eq_zero_or_pos done.length with h0 | h0
  · have e0 : ((done.length : Int) == 0) = true := by rw [h0]; rfl
    clear h0 hok
    obtain ⟨pf30, pf31⟩ := id qf_3
    obtain ⟨pr30, pr31⟩ := id qr_3
    go_wp2_with fail
    go_ret
    exact ⟨rfl, b_3⟩
  have e0 : ((done.length : Int) == 0) = false := beq_eq_false_iff_ne.2 (by omega)
  have hdl := dn_3.len
  have hdc := dn_3.cap
  have hbad := twice_bad (ver := ver) (ss := ss) h0 st
  have hoth := other_bad hok
  have hj0 : (0 : Int) < done.length := by omega
  have hj1 : (0 : Int) ≤ (done.length : Int) - 1 := by omega
  have hj2 : (1 : Int) ≤ done.length := by omega
  have hj3 : (done.length : Int) - 1 < done.length := by omega
  have hj4 : IntKind.i64.wrap ((done.length : Int) - 1) = (done.length : Int) - 1 := IntWalk.i64_in _ (by omega)
  have hj5 : ((done.length : Int) - 1).toNat = done.length - 1 := by omega
  have hj6 : (done.length : Int) - 1 ≤ d := by omega
  have hXm := hxs6.out _ (List.getElem_mem (show done.length - 1 < done.length by omega))
  obtain ⟨ad, rfl, had, hcell⟩ := dn_3.at_ (k := done.length - 1) (by omega)
  generalize hXe : done[done.length - 1]'(by omega) = X at *
  have Hbad := Lib.hid hbad
  have Hoth := Lib.hid hoth
  have hXs : X.size ≤ 9223372036854775807 := by omega
  clear hbad hoth hok hXe hXm
  obtain ⟨x0, x1⟩ := id qr_3
  obtain ⟨y0, y1⟩ := id qf_3
  have hXb := World.block_lt_of_cell? w3 _ hcell
  have hcl : ∀ w', Below w3.heap.size w3 w' → (w'.cell? ⟨w1.heap.size + 1, 0, none⟩ = some (.int .i64 st) ∧ w'.cell? ⟨w1.heap.size + 1, 1, none⟩ = some (.slice (some ad) done.length d) ∧ w'.cell? (ad.add (done.length - 1)) = some (.string X)) ∧ w3.heap.size ≤ w'.heap.size := fun w' hb => ⟨⟨(qr_3.then_ hb).c0, (qr_3.then_ hb).c1, (hb.cell hXb).trans hcell⟩, hb.size⟩
  have Hcl := Lib.hid hcl
  have Hlr : Hid (w1.heap.size + 1 < w3.heap.size) := Lib.hid (World.block_lt_of_cell? w3 _ x0)
  have Hxb := Lib.hid hXb
  have Hol : Hid (done.length + 1 = (done ++ [X]).length) := Lib.hid (by simp)
  have FA : Hid (OwnStrs (w3.alloc (.cells #[] 9)).drew w3.heap.size (some ⟨w3.heap.size, 0, none⟩) 0 []) := Lib.hid ((own_lit_at w3 w3.heap.size (w3.heap.size) (Nat.le_refl _) rfl)).drw
  have DA := Lib.hid ((dn_3.alloc2 (.cells #[] 9)).drew)
  have HBA : Hid (∀ w', Below w3.heap.size (w3.alloc (.cells #[] 9)).drew w' → Below w3.heap.size w3 w' ∧ (w'.cell? ⟨w1.heap.size + 1, 0, none⟩ = some (.int .i64 st) ∧ w'.cell? ⟨w1.heap.size + 1, 1, none⟩ = some (.slice (some ad) done.length d) ∧ w'.cell? (ad.add (done.length - 1)) = some (.string X)) ∧ w3.heap.size ≤ w'.heap.size) := Lib.hid fun w' hb => ⟨(((Below.refl _ _).alloc (Nat.le_refl _) (.cells #[] 9)).drew).trans hb, hcl _ ((((Below.refl _ _).alloc (Nat.le_refl _) (.cells #[] 9)).drew).trans hb)⟩
  have FAB : Hid (OwnStrs ((w3.alloc (.cells #[] 9)).alloc (.cells #[.string X] 9)).drew w3.heap.size (some ⟨w3.heap.size, 0, none⟩) 0 []) := Lib.hid (((own_lit_at w3 w3.heap.size (w3.heap.size) (Nat.le_refl _) rfl).alloc (.cells #[.string X] 9))).drw
  have DAB := Lib.hid (((dn_3.alloc2 (.cells #[] 9)).alloc2 (.cells #[.string X] 9)).drew)
  have HBAB : Hid (∀ w', Below w3.heap.size ((w3.alloc (.cells #[] 9)).alloc (.cells #[.string X] 9)).drew w' → Below w3.heap.size w3 w' ∧ (w'.cell? ⟨w1.heap.size + 1, 0, none⟩ = some (.int .i64 st) ∧ w'.cell? ⟨w1.heap.size + 1, 1, none⟩ = some (.slice (some ad) done.length d) ∧ w'.cell? (ad.add (done.length - 1)) = some (.string X)) ∧ w3.heap.size ≤ w'.heap.size) := Lib.hid fun w' hb => ⟨((((Below.refl _ _).alloc (Nat.le_refl _) (.cells #[] 9)).alloc (by simp) (.cells #[.string X] 9)).drew).trans hb, hcl _ (((((Below.refl _ _).alloc (Nat.le_refl _) (.cells #[] 9)).alloc (by simp) (.cells #[.string X] 9)).drew).trans hb)⟩
  have XAB : Hid (((w3.alloc (.cells #[] 9)).alloc (.cells #[.string X] 9)).drew.cell? ⟨w3.heap.size + 1, 0, none⟩ = some (.string X)) := Lib.hid (cell_dr (cell_lit_at (w3.alloc (.cells #[] 9)) X (w3.heap.size + 1) (by simp)))
  have FBA : Hid (OwnStrs ((w3.alloc (.cells #[.string X] 9)).alloc (.cells #[] 9)).drew w3.heap.size (some ⟨w3.heap.size + 1, 0, none⟩) 0 []) := Lib.hid ((own_lit_at (w3.alloc (.cells #[.string X] 9)) w3.heap.size (w3.heap.size + 1) (by simp) (by simp))).drw
  have DBA := Lib.hid (((dn_3.alloc2 (.cells #[.string X] 9)).alloc2 (.cells #[] 9)).drew)
  have HBBA : Hid (∀ w', Below w3.heap.size ((w3.alloc (.cells #[.string X] 9)).alloc (.cells #[] 9)).drew w' → Below w3.heap.size w3 w' ∧ (w'.cell? ⟨w1.heap.size + 1, 0, none⟩ = some (.int .i64 st) ∧ w'.cell? ⟨w1.heap.size + 1, 1, none⟩ = some (.slice (some ad) done.length d) ∧ w'.cell? (ad.add (done.length - 1)) = some (.string X)) ∧ w3.heap.size ≤ w'.heap.size) := Lib.hid fun w' hb => ⟨((((Below.refl _ _).alloc (Nat.le_refl _) (.cells #[.string X] 9)).alloc (by simp) (.cells #[] 9)).drew).trans hb, hcl _ (((((Below.refl _ _).alloc (Nat.le_refl _) (.cells #[.string X] 9)).alloc (by simp) (.cells #[] 9)).drew).trans hb)⟩
  have XBA : Hid (((w3.alloc (.cells #[.string X] 9)).alloc (.cells #[] 9)).drew.cell? ⟨w3.heap.size, 0, none⟩ = some (.string X)) := Lib.hid (cell_dr (cell_alR (cell_lit_at w3 X (w3.heap.size) rfl) (.cells #[] 9)))
  have FAZ : Hid (OwnStrs ((w3.alloc (.cells #[] 9)).alloc (.cells #[.int .i64 0, .slice none 0 0] 52)).drew w3.heap.size (some ⟨w3.heap.size, 0, none⟩) 0 []) := Lib.hid (((own_lit_at w3 w3.heap.size (w3.heap.size) (Nat.le_refl _) rfl).alloc (.cells #[.int .i64 0, .slice none 0 0] 52))).drw
  have DAZ := Lib.hid (((dn_3.alloc2 (.cells #[] 9)).alloc2 (.cells #[.int .i64 0, .slice none 0 0] 52)).drew)
  have HBAZ : Hid (∀ w', Below w3.heap.size ((w3.alloc (.cells #[] 9)).alloc (.cells #[.int .i64 0, .slice none 0 0] 52)).drew w' → Below w3.heap.size w3 w' ∧ (w'.cell? ⟨w1.heap.size + 1, 0, none⟩ = some (.int .i64 st) ∧ w'.cell? ⟨w1.heap.size + 1, 1, none⟩ = some (.slice (some ad) done.length d) ∧ w'.cell? (ad.add (done.length - 1)) = some (.string X)) ∧ w3.heap.size ≤ w'.heap.size) := Lib.hid fun w' hb => ⟨((((Below.refl _ _).alloc (Nat.le_refl _) (.cells #[] 9)).alloc (by simp) (.cells #[.int .i64 0, .slice none 0 0] 52)).drew).trans hb, hcl _ (((((Below.refl _ _).alloc (Nat.le_refl _) (.cells #[] 9)).alloc (by simp) (.cells #[.int .i64 0, .slice none 0 0] 52)).drew).trans hb)⟩
  have ZAZ : Hid (RBox ((w3.alloc (.cells #[] 9)).alloc (.cells #[.int .i64 0, .slice none 0 0] 52)).drew (w3.heap.size + 1) (.int .i64 0) (.slice none 0 0)) := Lib.hid ((RBox.new_at (w3.alloc (.cells #[] 9)) (.int .i64 0) (.slice none 0 0) (n := w3.heap.size + 1) (by simp))).drew
  have FZA : Hid (OwnStrs ((w3.alloc (.cells #[.int .i64 0, .slice none 0 0] 52)).alloc (.cells #[] 9)).drew w3.heap.size (some ⟨w3.heap.size + 1, 0, none⟩) 0 []) := Lib.hid ((own_lit_at (w3.alloc (.cells #[.int .i64 0, .slice none 0 0] 52)) w3.heap.size (w3.heap.size + 1) (by simp) (by simp))).drw
  have DZA := Lib.hid (((dn_3.alloc2 (.cells #[.int .i64 0, .slice none 0 0] 52)).alloc2 (.cells #[] 9)).drew)
  have HBZA : Hid (∀ w', Below w3.heap.size ((w3.alloc (.cells #[.int .i64 0, .slice none 0 0] 52)).alloc (.cells #[] 9)).drew w' → Below w3.heap.size w3 w' ∧ (w'.cell? ⟨w1.heap.size + 1, 0, none⟩ = some (.int .i64 st) ∧ w'.cell? ⟨w1.heap.size + 1, 1, none⟩ = some (.slice (some ad) done.length d) ∧ w'.cell? (ad.add (done.length - 1)) = some (.string X)) ∧ w3.heap.size ≤ w'.heap.size) := Lib.hid fun w' hb => ⟨((((Below.refl _ _).alloc (Nat.le_refl _) (.cells #[.int .i64 0, .slice none 0 0] 52)).alloc (by simp) (.cells #[] 9)).drew).trans hb, hcl _ (((((Below.refl _ _).alloc (Nat.le_refl _) (.cells #[.int .i64 0, .slice none 0 0] 52)).alloc (by simp) (.cells #[] 9)).drew).trans hb)⟩
  have ZZA : Hid (RBox ((w3.alloc (.cells #[.int .i64 0, .slice none 0 0] 52)).alloc (.cells #[] 9)).drew (w3.heap.size) (.int .i64 0) (.slice none 0 0)) := Lib.hid (((RBox.new_at w3 (.int .i64 0) (.slice none 0 0) (n := w3.heap.size) rfl).alloc (.cells #[] 9))).drew
  have FABZ : Hid (OwnStrs (((w3.alloc (.cells #[] 9)).alloc (.cells #[.string X] 9)).alloc (.cells #[.int .i64 0, .slice none 0 0] 52)).drew w3.heap.size (some ⟨w3.heap.size, 0, none⟩) 0 []) := Lib.hid ((((own_lit_at w3 w3.heap.size (w3.heap.size) (Nat.le_refl _) rfl).alloc (.cells #[.string X] 9)).alloc (.cells #[.int .i64 0, .slice none 0 0] 52))).drw
  have DABZ := Lib.hid ((((dn_3.alloc2 (.cells #[] 9)).alloc2 (.cells #[.string X] 9)).alloc2 (.cells #[.int .i64 0, .slice none 0 0] 52)).drew)
  have HBABZ : Hid (∀ w', Below w3.heap.size (((w3.alloc (.cells #[] 9)).alloc (.cells #[.string X] 9)).alloc (.cells #[.int .i64 0, .slice none 0 0] 52)).drew w' → Below w3.heap.size w3 w' ∧ (w'.cell? ⟨w1.heap.size + 1, 0, none⟩ = some (.int .i64 st) ∧ w'.cell? ⟨w1.heap.size + 1, 1, none⟩ = some (.slice (some ad) done.length d) ∧ w'.cell? (ad.add (done.length - 1)) = some (.string X)) ∧ w3.heap.size ≤ w'.heap.size) := Lib.hid fun w' hb => ⟨(((((Below.refl _ _).alloc (Nat.le_refl _) (.cells #[] 9)).alloc (by simp) (.cells #[.string X] 9)).alloc (by simp; omega) (.cells #[.int .i64 0, .slice none 0 0] 52)).drew).trans hb, hcl _ ((((((Below.refl _ _).alloc (Nat.le_refl _) (.cells #[] 9)).alloc (by simp) (.cells #[.string X] 9)).alloc (by simp; omega) (.cells #[.int .i64 0, .slice none 0 0] 52)).drew).trans hb)⟩
  have XABZ : Hid ((((w3.alloc (.cells #[] 9)).alloc (.cells #[.string X] 9)).alloc (.cells #[.int .i64 0, .slice none 0 0] 52)).drew.cell? ⟨w3.heap.size + 1, 0, none⟩ = some (.string X)) := Lib.hid (cell_dr (cell_alR (cell_lit_at (w3.alloc (.cells #[] 9)) X (w3.heap.size + 1) (by simp)) (.cells #[.int .i64 0, .slice none 0 0] 52)))
  have ZABZ : Hid (RBox (((w3.alloc (.cells #[] 9)).alloc (.cells #[.string X] 9)).alloc (.cells #[.int .i64 0, .slice none 0 0] 52)).drew (w3.heap.size + 2) (.int .i64 0) (.slice none 0 0)) := Lib.hid ((RBox.new_at ((w3.alloc (.cells #[] 9)).alloc (.cells #[.string X] 9)) (.int .i64 0) (.slice none 0 0) (n := w3.heap.size + 2) (by simp))).drew
  have FAZB : Hid (OwnStrs (((w3.alloc (.cells #[] 9)).alloc (.cells #[.int .i64 0, .slice none 0 0] 52)).alloc (.cells #[.string X] 9)).drew w3.heap.size (some ⟨w3.heap.size, 0, none⟩) 0 []) := Lib.hid ((((own_lit_at w3 w3.heap.size (w3.heap.size) (Nat.le_refl _) rfl).alloc (.cells #[.int .i64 0, .slice none 0 0] 52)).alloc (.cells #[.string X] 9))).drw
  have DAZB := Lib.hid ((((dn_3.alloc2 (.cells #[] 9)).alloc2 (.cells #[.int .i64 0, .slice none 0 0] 52)).alloc2 (.cells #[.string X] 9)).drew)
  have HBAZB : Hid (∀ w', Below w3.heap.size (((w3.alloc (.cells #[] 9)).alloc (.cells #[.int .i64 0, .slice none 0 0] 52)).alloc (.cells #[.string X] 9)).drew w' → Below w3.heap.size w3 w' ∧ (w'.cell? ⟨w1.heap.size + 1, 0, none⟩ = some (.int .i64 st) ∧ w'.cell? ⟨w1.heap.size + 1, 1, none⟩ = some (.slice (some ad) done.length d) ∧ w'.cell? (ad.add (done.length - 1)) = some (.string X)) ∧ w3.heap.size ≤ w'.heap.size) := Lib.hid fun w' hb => ⟨(((((Below.refl _ _).alloc (Nat.le_refl _) (.cells #[] 9)).alloc (by simp) (.cells #[.int .i64 0, .slice none 0 0] 52)).alloc (by simp; omega) (.cells #[.string X] 9)).drew).trans hb, hcl _ ((((((Below.refl _ _).alloc (Nat.le_refl _) (.cells #[] 9)).alloc (by simp) (.cells #[.int .i64 0, .slice none 0 0] 52)).alloc (by simp; omega) (.cells #[.string X] 9)).drew).trans hb)⟩
  have XAZB : Hid ((((w3.alloc (.cells #[] 9)).alloc (.cells #[.int .i64 0, .slice none 0 0] 52)).alloc (.cells #[.string X] 9)).drew.cell? ⟨w3.heap.size + 2, 0, none⟩ = some (.string X)) := Lib.hid (cell_dr (cell_lit_at ((w3.alloc (.cells #[] 9)).alloc (.cells #[.int .i64 0, .slice none 0 0] 52)) X (w3.heap.size + 2) (by simp)))
  have ZAZB : Hid (RBox (((w3.alloc (.cells #[] 9)).alloc (.cells #[.int .i64 0, .slice none 0 0] 52)).alloc (.cells #[.string X] 9)).drew (w3.heap.size + 1) (.int .i64 0) (.slice none 0 0)) := Lib.hid (((RBox.new_at (w3.alloc (.cells #[] 9)) (.int .i64 0) (.slice none 0 0) (n := w3.heap.size + 1) (by simp)).alloc (.cells #[.string X] 9))).drew
  have FBAZ : Hid (OwnStrs (((w3.alloc (.cells #[.string X] 9)).alloc (.cells #[] 9)).alloc (.cells #[.int .i64 0, .slice none 0 0] 52)).drew w3.heap.size (some ⟨w3.heap.size + 1, 0, none⟩) 0 []) := Lib.hid (((own_lit_at (w3.alloc (.cells #[.string X] 9)) w3.heap.size (w3.heap.size + 1) (by simp) (by simp)).alloc (.cells #[.int .i64 0, .slice none 0 0] 52))).drw
  have DBAZ := Lib.hid ((((dn_3.alloc2 (.cells #[.string X] 9)).alloc2 (.cells #[] 9)).alloc2 (.cells #[.int .i64 0, .slice none 0 0] 52)).drew)
  have HBBAZ : Hid (∀ w', Below w3.heap.size (((w3.alloc (.cells #[.string X] 9)).alloc (.cells #[] 9)).alloc (.cells #[.int .i64 0, .slice none 0 0] 52)).drew w' → Below w3.heap.size w3 w' ∧ (w'.cell? ⟨w1.heap.size + 1, 0, none⟩ = some (.int .i64 st) ∧ w'.cell? ⟨w1.heap.size + 1, 1, none⟩ = some (.slice (some ad) done.length d) ∧ w'.cell? (ad.add (done.length - 1)) = some (.string X)) ∧ w3.heap.size ≤ w'.heap.size) := Lib.hid fun w' hb => ⟨(((((Below.refl _ _).alloc (Nat.le_refl _) (.cells #[.string X] 9)).alloc (by simp) (.cells #[] 9)).alloc (by simp; omega) (.cells #[.int .i64 0, .slice none 0 0] 52)).drew).trans hb, hcl _ ((((((Below.refl _ _).alloc (Nat.le_refl _) (.cells #[.string X] 9)).alloc (by simp) (.cells #[] 9)).alloc (by simp; omega) (.cells #[.int .i64 0, .slice none 0 0] 52)).drew).trans hb)⟩
  have XBAZ : Hid ((((w3.alloc (.cells #[.string X] 9)).alloc (.cells #[] 9)).alloc (.cells #[.int .i64 0, .slice none 0 0] 52)).drew.cell? ⟨w3.heap.size, 0, none⟩ = some (.string X)) := Lib.hid (cell_dr (cell_alR (cell_alR (cell_lit_at w3 X (w3.heap.size) rfl) (.cells #[] 9)) (.cells #[.int .i64 0, .slice none 0 0] 52)))
  have ZBAZ : Hid (RBox (((w3.alloc (.cells #[.string X] 9)).alloc (.cells #[] 9)).alloc (.cells #[.int .i64 0, .slice none 0 0] 52)).drew (w3.heap.size + 2) (.int .i64 0) (.slice none 0 0)) := Lib.hid ((RBox.new_at ((w3.alloc (.cells #[.string X] 9)).alloc (.cells #[] 9)) (.int .i64 0) (.slice none 0 0) (n := w3.heap.size + 2) (by simp))).drew
  have FBZA : Hid (OwnStrs (((w3.alloc (.cells #[.string X] 9)).alloc (.cells #[.int .i64 0, .slice none 0 0] 52)).alloc (.cells #[] 9)).drew w3.heap.size (some ⟨w3.heap.size + 2, 0, none⟩) 0 []) := Lib.hid ((own_lit_at ((w3.alloc (.cells #[.string X] 9)).alloc (.cells #[.int .i64 0, .slice none 0 0] 52)) w3.heap.size (w3.heap.size + 2) (by simp; omega) (by simp))).drw
  have DBZA := Lib.hid ((((dn_3.alloc2 (.cells #[.string X] 9)).alloc2 (.cells #[.int .i64 0, .slice none 0 0] 52)).alloc2 (.cells #[] 9)).drew)
  have HBBZA : Hid (∀ w', Below w3.heap.size (((w3.alloc (.cells #[.string X] 9)).alloc (.cells #[.int .i64 0, .slice none 0 0] 52)).alloc (.cells #[] 9)).drew w' → Below w3.heap.size w3 w' ∧ (w'.cell? ⟨w1.heap.size + 1, 0, none⟩ = some (.int .i64 st) ∧ w'.cell? ⟨w1.heap.size + 1, 1, none⟩ = some (.slice (some ad) done.length d) ∧ w'.cell? (ad.add (done.length - 1)) = some (.string X)) ∧ w3.heap.size ≤ w'.heap.size) := Lib.hid fun w' hb => ⟨(((((Below.refl _ _).alloc (Nat.le_refl _) (.cells #[.string X] 9)).alloc (by simp) (.cells #[.int .i64 0, .slice none 0 0] 52)).alloc (by simp; omega) (.cells #[] 9)).drew).trans hb, hcl _ ((((((Below.refl _ _).alloc (Nat.le_refl _) (.cells #[.string X] 9)).alloc (by simp) (.cells #[.int .i64 0, .slice none 0 0] 52)).alloc (by simp; omega) (.cells #[] 9)).drew).trans hb)⟩
  have XBZA : Hid ((((w3.alloc (.cells #[.string X] 9)).alloc (.cells #[.int .i64 0, .slice none 0 0] 52)).alloc (.cells #[] 9)).drew.cell? ⟨w3.heap.size, 0, none⟩ = some (.string X)) := Lib.hid (cell_dr (cell_alR (cell_alR (cell_lit_at w3 X (w3.heap.size) rfl) (.cells #[.int .i64 0, .slice none 0 0] 52)) (.cells #[] 9)))
  have ZBZA : Hid (RBox (((w3.alloc (.cells #[.string X] 9)).alloc (.cells #[.int .i64 0, .slice none 0 0] 52)).alloc (.cells #[] 9)).drew (w3.heap.size + 1) (.int .i64 0) (.slice none 0 0)) := Lib.hid (((RBox.new_at (w3.alloc (.cells #[.string X] 9)) (.int .i64 0) (.slice none 0 0) (n := w3.heap.size + 1) (by simp)).alloc (.cells #[] 9))).drew
  have FZAB : Hid (OwnStrs (((w3.alloc (.cells #[.int .i64 0, .slice none 0 0] 52)).alloc (.cells #[] 9)).alloc (.cells #[.string X] 9)).drew w3.heap.size (some ⟨w3.heap.size + 1, 0, none⟩) 0 []) := Lib.hid (((own_lit_at (w3.alloc (.cells #[.int .i64 0, .slice none 0 0] 52)) w3.heap.size (w3.heap.size + 1) (by simp) (by simp)).alloc (.cells #[.string X] 9))).drw
  have DZAB := Lib.hid ((((dn_3.alloc2 (.cells #[.int .i64 0, .slice none 0 0] 52)).alloc2 (.cells #[] 9)).alloc2 (.cells #[.string X] 9)).drew)
  have HBZAB : Hid (∀ w', Below w3.heap.size (((w3.alloc (.cells #[.int .i64 0, .slice none 0 0] 52)).alloc (.cells #[] 9)).alloc (.cells #[.string X] 9)).drew w' → Below w3.heap.size w3 w' ∧ (w'.cell? ⟨w1.heap.size + 1, 0, none⟩ = some (.int .i64 st) ∧ w'.cell? ⟨w1.heap.size + 1, 1, none⟩ = some (.slice (some ad) done.length d) ∧ w'.cell? (ad.add (done.length - 1)) = some (.string X)) ∧ w3.heap.size ≤ w'.heap.size) := Lib.hid fun w' hb => ⟨(((((Below.refl _ _).alloc (Nat.le_refl _) (.cells #[.int .i64 0, .slice none 0 0] 52)).alloc (by simp) (.cells #[] 9)).alloc (by simp; omega) (.cells #[.string X] 9)).drew).trans hb, hcl _ ((((((Below.refl _ _).alloc (Nat.le_refl _) (.cells #[.int .i64 0, .slice none 0 0] 52)).alloc (by simp) (.cells #[] 9)).alloc (by simp; omega) (.cells #[.string X] 9)).drew).trans hb)⟩
  have XZAB : Hid ((((w3.alloc (.cells #[.int .i64 0, .slice none 0 0] 52)).alloc (.cells #[] 9)).alloc (.cells #[.string X] 9)).drew.cell? ⟨w3.heap.size + 2, 0, none⟩ = some (.string X)) := Lib.hid (cell_dr (cell_lit_at ((w3.alloc (.cells #[.int .i64 0, .slice none 0 0] 52)).alloc (.cells #[] 9)) X (w3.heap.size + 2) (by simp)))
  have ZZAB : Hid (RBox (((w3.alloc (.cells #[.int .i64 0, .slice none 0 0] 52)).alloc (.cells #[] 9)).alloc (.cells #[.string X] 9)).drew (w3.heap.size) (.int .i64 0) (.slice none 0 0)) := Lib.hid ((((RBox.new_at w3 (.int .i64 0) (.slice none 0 0) (n := w3.heap.size) rfl).alloc (.cells #[] 9)).alloc (.cells #[.string X] 9))).drew
  have FZBA : Hid (OwnStrs (((w3.alloc (.cells #[.int .i64 0, .slice none 0 0] 52)).alloc (.cells #[.string X] 9)).alloc (.cells #[] 9)).drew w3.heap.size (some ⟨w3.heap.size + 2, 0, none⟩) 0 []) := Lib.hid ((own_lit_at ((w3.alloc (.cells #[.int .i64 0, .slice none 0 0] 52)).alloc (.cells #[.string X] 9)) w3.heap.size (w3.heap.size + 2) (by simp; omega) (by simp))).drw
  have DZBA := Lib.hid ((((dn_3.alloc2 (.cells #[.int .i64 0, .slice none 0 0] 52)).alloc2 (.cells #[.string X] 9)).alloc2 (.cells #[] 9)).drew)
  have HBZBA : Hid (∀ w', Below w3.heap.size (((w3.alloc (.cells #[.int .i64 0, .slice none 0 0] 52)).alloc (.cells #[.string X] 9)).alloc (.cells #[] 9)).drew w' → Below w3.heap.size w3 w' ∧ (w'.cell? ⟨w1.heap.size + 1, 0, none⟩ = some (.int .i64 st) ∧ w'.cell? ⟨w1.heap.size + 1, 1, none⟩ = some (.slice (some ad) done.length d) ∧ w'.cell? (ad.add (done.length - 1)) = some (.string X)) ∧ w3.heap.size ≤ w'.heap.size) := Lib.hid fun w' hb => ⟨(((((Below.refl _ _).alloc (Nat.le_refl _) (.cells #[.int .i64 0, .slice none 0 0] 52)).alloc (by simp) (.cells #[.string X] 9)).alloc (by simp; omega) (.cells #[] 9)).drew).trans hb, hcl _ ((((((Below.refl _ _).alloc (Nat.le_refl _) (.cells #[.int .i64 0, .slice none 0 0] 52)).alloc (by simp) (.cells #[.string X] 9)).alloc (by simp; omega) (.cells #[] 9)).drew).trans hb)⟩
  have XZBA : Hid ((((w3.alloc (.cells #[.int .i64 0, .slice none 0 0] 52)).alloc (.cells #[.string X] 9)).alloc (.cells #[] 9)).drew.cell? ⟨w3.heap.size + 1, 0, none⟩ = some (.string X)) := Lib.hid (cell_dr (cell_alR (cell_lit_at (w3.alloc (.cells #[.int .i64 0, .slice none 0 0] 52)) X (w3.heap.size + 1) (by simp)) (.cells #[] 9)))
  have ZZBA : Hid (RBox (((w3.alloc (.cells #[.int .i64 0, .slice none 0 0] 52)).alloc (.cells #[.string X] 9)).alloc (.cells #[] 9)).drew (w3.heap.size) (.int .i64 0) (.slice none 0 0)) := Lib.hid ((((RBox.new_at w3 (.int .i64 0) (.slice none 0 0) (n := w3.heap.size) rfl).alloc (.cells #[.string X] 9)).alloc (.cells #[] 9))).drew
  clear hcl
  go_upto_region 8 with fail
  go_cut [7] (fun vb wx => CutRun w3 st (done ++ [X]) w3.heap.size vb wx)
  case first =>
    go_wp2_with fail
    go_region_held3 (fun w' => w'.cell? ⟨w1.heap.size + 1, 0, none⟩ = some (.int .i64 st) ∧ w'.cell? ⟨w1.heap.size + 1, 1, none⟩ = some (.slice (some ad) done.length d) ∧ w'.cell? (ad.add (done.length - 1)) = some (.string X))
      (exact And.intro (by with_reducible (repeat (first | exact hS8.1 | exact hS7.1 | exact x0 | refine cell_al ?_ _ | refine cell_dr ?_ | refine cell_st (blk_ne Hlr.out (by first | exact Nat.le_refl _ | exact Nat.le_add_right _ _ | exact hz7 | exact Nat.le_succ_of_le hz7 | omega)) ?_))) (And.intro (by with_reducible (repeat (first | exact hS8.2.1 | exact hS7.2.1 | exact x1 | refine cell_al ?_ _ | refine cell_dr ?_ | refine cell_st (blk_ne Hlr.out (by first | exact Nat.le_refl _ | exact Nat.le_add_right _ _ | exact hz7 | exact Nat.le_succ_of_le hz7 | omega)) ?_))) (by with_reducible (repeat (first | exact hS8.2.2 | exact hS7.2.2 | exact hcell | refine cell_al ?_ _ | refine cell_dr ?_ | refine cell_st (farb_ne Hxb.out (by first | exact Nat.le_refl _ | exact Nat.le_add_right _ _ | exact hz7 | exact Nat.le_succ_of_le hz7 | omega)) ?_)))))
      (first
        | (refine step_append_strs _ rfl (.tmp 41) (.tmp 43) rfl w3.heap.size (some ⟨w3.heap.size, 0, none⟩) 0 [] 0 (by simp [Act.eval]) (Lib.hid rfl) FA.out (some ad) d _ done done.length (by simp [Act.eval]) (Lib.hid rfl) DA.out done rfl (by omega) (by simp) ?_; intro A7 c7 w7 ho7 hl7 hg7; obtain ⟨hB7, hS7, hz7⟩ := HBA.out _ hl7)
        | (refine step_append_strs _ rfl (.tmp 41) (.tmp 43) rfl w3.heap.size (some ⟨w3.heap.size, 0, none⟩) 0 [] 0 (by simp [Act.eval]) (Lib.hid rfl) FAB.out (some ad) d _ done done.length (by simp [Act.eval]) (Lib.hid rfl) DAB.out done rfl (by omega) (by simp; omega) ?_; intro A7 c7 w7 ho7 hl7 hg7; obtain ⟨hB7, hS7, hz7⟩ := HBAB.out _ hl7; have hX7 := hg7.cell (a := ⟨w3.heap.size + 1, 0, none⟩) XAB.out (by simp))
        | (refine step_append_strs _ rfl (.tmp 41) (.tmp 43) rfl w3.heap.size (some ⟨w3.heap.size + 1, 0, none⟩) 0 [] 0 (by simp [Act.eval]) (Lib.hid rfl) FBA.out (some ad) d _ done done.length (by simp [Act.eval]) (Lib.hid rfl) DBA.out done rfl (by omega) (by simp; omega) ?_; intro A7 c7 w7 ho7 hl7 hg7; obtain ⟨hB7, hS7, hz7⟩ := HBBA.out _ hl7; have hX7 := hg7.cell (a := ⟨w3.heap.size, 0, none⟩) XBA.out (by simp))
        | (refine step_append_strs _ rfl (.tmp 41) (.tmp 43) rfl w3.heap.size (some ⟨w3.heap.size, 0, none⟩) 0 [] 0 (by simp [Act.eval]) (Lib.hid rfl) FAZ.out (some ad) d _ done done.length (by simp [Act.eval]) (Lib.hid rfl) DAZ.out done rfl (by omega) (by simp; omega) ?_; intro A7 c7 w7 ho7 hl7 hg7; obtain ⟨hB7, hS7, hz7⟩ := HBAZ.out _ hl7; have hZ7 := RBox.keep_ (g := w3.heap.size) ZAZ.out hg7 (by omega))
        | (refine step_append_strs _ rfl (.tmp 41) (.tmp 43) rfl w3.heap.size (some ⟨w3.heap.size + 1, 0, none⟩) 0 [] 0 (by simp [Act.eval]) (Lib.hid rfl) FZA.out (some ad) d _ done done.length (by simp [Act.eval]) (Lib.hid rfl) DZA.out done rfl (by omega) (by simp; omega) ?_; intro A7 c7 w7 ho7 hl7 hg7; obtain ⟨hB7, hS7, hz7⟩ := HBZA.out _ hl7; have hZ7 := RBox.keep_ (g := w3.heap.size + 1) ZZA.out hg7 (by omega))
        | (refine step_append_strs _ rfl (.tmp 41) (.tmp 43) rfl w3.heap.size (some ⟨w3.heap.size, 0, none⟩) 0 [] 0 (by simp [Act.eval]) (Lib.hid rfl) FABZ.out (some ad) d _ done done.length (by simp [Act.eval]) (Lib.hid rfl) DABZ.out done rfl (by omega) (by simp; omega) ?_; intro A7 c7 w7 ho7 hl7 hg7; obtain ⟨hB7, hS7, hz7⟩ := HBABZ.out _ hl7; have hX7 := hg7.cell (a := ⟨w3.heap.size + 1, 0, none⟩) XABZ.out (by simp); have hZ7 := RBox.keep_ (g := w3.heap.size) ZABZ.out hg7 (by omega))
        | (refine step_append_strs _ rfl (.tmp 41) (.tmp 43) rfl w3.heap.size (some ⟨w3.heap.size, 0, none⟩) 0 [] 0 (by simp [Act.eval]) (Lib.hid rfl) FAZB.out (some ad) d _ done done.length (by simp [Act.eval]) (Lib.hid rfl) DAZB.out done rfl (by omega) (by simp; omega) ?_; intro A7 c7 w7 ho7 hl7 hg7; obtain ⟨hB7, hS7, hz7⟩ := HBAZB.out _ hl7; have hX7 := hg7.cell (a := ⟨w3.heap.size + 2, 0, none⟩) XAZB.out (by simp); have hZ7 := RBox.keep_ (g := w3.heap.size) ZAZB.out hg7 (by omega))
        | (refine step_append_strs _ rfl (.tmp 41) (.tmp 43) rfl w3.heap.size (some ⟨w3.heap.size + 1, 0, none⟩) 0 [] 0 (by simp [Act.eval]) (Lib.hid rfl) FBAZ.out (some ad) d _ done done.length (by simp [Act.eval]) (Lib.hid rfl) DBAZ.out done rfl (by omega) (by simp; omega) ?_; intro A7 c7 w7 ho7 hl7 hg7; obtain ⟨hB7, hS7, hz7⟩ := HBBAZ.out _ hl7; have hX7 := hg7.cell (a := ⟨w3.heap.size, 0, none⟩) XBAZ.out (by simp); have hZ7 := RBox.keep_ (g := w3.heap.size + 1) ZBAZ.out hg7 (by omega))
        | (refine step_append_strs _ rfl (.tmp 41) (.tmp 43) rfl w3.heap.size (some ⟨w3.heap.size + 2, 0, none⟩) 0 [] 0 (by simp [Act.eval]) (Lib.hid rfl) FBZA.out (some ad) d _ done done.length (by simp [Act.eval]) (Lib.hid rfl) DBZA.out done rfl (by omega) (by simp; omega) ?_; intro A7 c7 w7 ho7 hl7 hg7; obtain ⟨hB7, hS7, hz7⟩ := HBBZA.out _ hl7; have hX7 := hg7.cell (a := ⟨w3.heap.size, 0, none⟩) XBZA.out (by simp); have hZ7 := RBox.keep_ (g := w3.heap.size + 2) ZBZA.out hg7 (by omega))
        | (refine step_append_strs _ rfl (.tmp 41) (.tmp 43) rfl w3.heap.size (some ⟨w3.heap.size + 1, 0, none⟩) 0 [] 0 (by simp [Act.eval]) (Lib.hid rfl) FZAB.out (some ad) d _ done done.length (by simp [Act.eval]) (Lib.hid rfl) DZAB.out done rfl (by omega) (by simp; omega) ?_; intro A7 c7 w7 ho7 hl7 hg7; obtain ⟨hB7, hS7, hz7⟩ := HBZAB.out _ hl7; have hX7 := hg7.cell (a := ⟨w3.heap.size + 2, 0, none⟩) XZAB.out (by simp); have hZ7 := RBox.keep_ (g := w3.heap.size + 1) ZZAB.out hg7 (by omega))
        | (refine step_append_strs _ rfl (.tmp 41) (.tmp 43) rfl w3.heap.size (some ⟨w3.heap.size + 2, 0, none⟩) 0 [] 0 (by simp [Act.eval]) (Lib.hid rfl) FZBA.out (some ad) d _ done done.length (by simp [Act.eval]) (Lib.hid rfl) DZBA.out done rfl (by omega) (by simp; omega) ?_; intro A7 c7 w7 ho7 hl7 hg7; obtain ⟨hB7, hS7, hz7⟩ := HBZBA.out _ hl7; have hX7 := hg7.cell (a := ⟨w3.heap.size + 1, 0, none⟩) XZBA.out (by simp); have hZ7 := RBox.keep_ (g := w3.heap.size + 2) ZZBA.out hg7 (by omega))
        | (refine step_append_name _ rfl (.tmp 44) (.tmp 53) rfl w3.heap.size A7 c7 done (by simp [Act.eval]) ho7 ⟨w3.heap.size, 0, none⟩ 1 X (by simp [Act.eval]) hX7 hXs (by omega) hz7 ?_; intro A8 c8 w8 hap; have hB8 := hB7.trans hap.low; have ho8 := hap.own; obtain ⟨hS8, hz8⟩ := Hcl.out _ hB8; have hZ8 := RBox.overApp hZ7 ho7 hap.grown; obtain ⟨zc0, zc1⟩ := hZ8.cells; have zf := fun i => hZ8.free i)
        | (refine step_append_name _ rfl (.tmp 44) (.tmp 53) rfl w3.heap.size A7 c7 done (by simp [Act.eval]) ho7 ⟨w3.heap.size + 1, 0, none⟩ 1 X (by simp [Act.eval]) hX7 hXs (by omega) hz7 ?_; intro A8 c8 w8 hap; have hB8 := hB7.trans hap.low; have ho8 := hap.own; obtain ⟨hS8, hz8⟩ := Hcl.out _ hB8; have hZ8 := RBox.overApp hZ7 ho7 hap.grown; obtain ⟨zc0, zc1⟩ := hZ8.cells; have zf := fun i => hZ8.free i)
        | (refine step_append_name _ rfl (.tmp 44) (.tmp 53) rfl w3.heap.size A7 c7 done (by simp [Act.eval]) ho7 ⟨w3.heap.size + 2, 0, none⟩ 1 X (by simp [Act.eval]) hX7 hXs (by omega) hz7 ?_; intro A8 c8 w8 hap; have hB8 := hB7.trans hap.low; have ho8 := hap.own; obtain ⟨hS8, hz8⟩ := Hcl.out _ hB8; have hZ8 := RBox.overApp hZ7 ho7 hap.grown; obtain ⟨zc0, zc1⟩ := hZ8.cells; have zf := fun i => hZ8.free i)
        | (refine step_append_name _ rfl (.tmp 44) (.tmp 53) rfl w3.heap.size A7 c7 done (by simp [Act.eval]) ho7 ⟨w3.heap.size, 0, none⟩ 1 X (by simp [Act.eval]) hX7 hXs (by omega) hz7 ?_; intro A8 c8 w8 hap; have hB8 := hB7.trans hap.low; have ho8 := hap.own; obtain ⟨hS8, hz8⟩ := Hcl.out _ hB8)
        | (refine step_append_name _ rfl (.tmp 44) (.tmp 53) rfl w3.heap.size A7 c7 done (by simp [Act.eval]) ho7 ⟨w3.heap.size + 1, 0, none⟩ 1 X (by simp [Act.eval]) hX7 hXs (by omega) hz7 ?_; intro A8 c8 w8 hap; have hB8 := hB7.trans hap.low; have ho8 := hap.own; obtain ⟨hS8, hz8⟩ := Hcl.out _ hB8)
        | (refine step_append_name _ rfl (.tmp 44) (.tmp 53) rfl w3.heap.size A7 c7 done (by simp [Act.eval]) ho7 ⟨w3.heap.size + 2, 0, none⟩ 1 X (by simp [Act.eval]) hX7 hXs (by omega) hz7 ?_; intro A8 c8 w8 hap; have hB8 := hB7.trans hap.low; have ho8 := hap.own; obtain ⟨hS8, hz8⟩ := Hcl.out _ hB8)
        | (refine step_append_name _ rfl (.tmp 44) (.tmp 53) rfl w3.heap.size A7 c7 done (by simp [Act.eval]) (ho7.alloc (.cells #[.int .i64 0, .slice none 0 0] 52)) ⟨w3.heap.size, 0, none⟩ 1 X (by simp [Act.eval]) (cell_alR hX7 (.cells #[.int .i64 0, .slice none 0 0] 52)) hXs (by omega) (by simp; omega) ?_; intro A8 c8 w8 hap; have hB8 := (hB7.alloc hz7 (.cells #[.int .i64 0, .slice none 0 0] 52)).trans hap.low; have ho8 := hap.own; obtain ⟨hS8, hz8⟩ := Hcl.out _ hB8; have hZ8 := RBox.overApp (RBox.new_at w7 (.int .i64 0) (.slice none 0 0) (n := w7.heap.size) rfl) (ho7.alloc (.cells #[.int .i64 0, .slice none 0 0] 52)) hap.grown; obtain ⟨zc0, zc1⟩ := hZ8.cells; have zf := fun i => hZ8.free i)
        | (refine step_append_name _ rfl (.tmp 44) (.tmp 53) rfl w3.heap.size A7 c7 done (by simp [Act.eval]) (ho7.alloc (.cells #[.int .i64 0, .slice none 0 0] 52)) ⟨w3.heap.size + 1, 0, none⟩ 1 X (by simp [Act.eval]) (cell_alR hX7 (.cells #[.int .i64 0, .slice none 0 0] 52)) hXs (by omega) (by simp; omega) ?_; intro A8 c8 w8 hap; have hB8 := (hB7.alloc hz7 (.cells #[.int .i64 0, .slice none 0 0] 52)).trans hap.low; have ho8 := hap.own; obtain ⟨hS8, hz8⟩ := Hcl.out _ hB8; have hZ8 := RBox.overApp (RBox.new_at w7 (.int .i64 0) (.slice none 0 0) (n := w7.heap.size) rfl) (ho7.alloc (.cells #[.int .i64 0, .slice none 0 0] 52)) hap.grown; obtain ⟨zc0, zc1⟩ := hZ8.cells; have zf := fun i => hZ8.free i)
        | (refine step_append_name _ rfl (.tmp 44) (.tmp 53) rfl w3.heap.size A7 c7 done (by simp [Act.eval]) (ho7.alloc (.cells #[.string X] 9)) ⟨w7.heap.size, 0, none⟩ 1 X (by simp [Act.eval]) (cell_lit_at w7 X _ rfl) hXs (by omega) (by simp; omega) ?_; intro A8 c8 w8 hap; have hB8 := (hB7.alloc hz7 (.cells #[.string X] 9)).trans hap.low; have ho8 := hap.own; obtain ⟨hS8, hz8⟩ := Hcl.out _ hB8; have hZ8 := RBox.overApp (hZ7.alloc (.cells #[.string X] 9)) (ho7.alloc (.cells #[.string X] 9)) hap.grown; obtain ⟨zc0, zc1⟩ := hZ8.cells; have zf := fun i => hZ8.free i)
        | (refine step_append_name _ rfl (.tmp 44) (.tmp 53) rfl w3.heap.size A7 c7 done (by simp [Act.eval]) (ho7.alloc (.cells #[.string X] 9)) ⟨w7.heap.size, 0, none⟩ 1 X (by simp [Act.eval]) (cell_lit_at w7 X _ rfl) hXs (by omega) (by simp; omega) ?_; intro A8 c8 w8 hap; have hB8 := (hB7.alloc hz7 (.cells #[.string X] 9)).trans hap.low; have ho8 := hap.own; obtain ⟨hS8, hz8⟩ := Hcl.out _ hB8)
        | (refine step_append_name _ rfl (.tmp 44) (.tmp 53) rfl w3.heap.size A7 c7 done (by simp [Act.eval]) ((ho7.alloc (.cells #[.string X] 9)).alloc (.cells #[.int .i64 0, .slice none 0 0] 52)) ⟨w7.heap.size, 0, none⟩ 1 X (by simp [Act.eval]) (cell_alR (cell_lit_at w7 X _ rfl) (.cells #[.int .i64 0, .slice none 0 0] 52)) hXs (by omega) (by simp; omega) ?_; intro A8 c8 w8 hap; have hB8 := ((hB7.alloc hz7 (.cells #[.string X] 9)).alloc (by simp; omega) (.cells #[.int .i64 0, .slice none 0 0] 52)).trans hap.low; have ho8 := hap.own; obtain ⟨hS8, hz8⟩ := Hcl.out _ hB8; have hZ8 := RBox.overApp (RBox.new_at (w7.alloc (.cells #[.string X] 9)) (.int .i64 0) (.slice none 0 0) (n := w7.heap.size + 1) (by simp)) ((ho7.alloc (.cells #[.string X] 9)).alloc (.cells #[.int .i64 0, .slice none 0 0] 52)) hap.grown; obtain ⟨zc0, zc1⟩ := hZ8.cells; have zf := fun i => hZ8.free i)
        | (refine step_append_name _ rfl (.tmp 44) (.tmp 53) rfl w3.heap.size A7 c7 done (by simp [Act.eval]) ((ho7.alloc (.cells #[.int .i64 0, .slice none 0 0] 52)).alloc (.cells #[.string X] 9)) ⟨w7.heap.size + 1, 0, none⟩ 1 X (by simp [Act.eval]) (cell_lit_at (w7.alloc (.cells #[.int .i64 0, .slice none 0 0] 52)) X (w7.heap.size + 1) (by simp)) hXs (by omega) (by simp; omega) ?_; intro A8 c8 w8 hap; have hB8 := ((hB7.alloc hz7 (.cells #[.int .i64 0, .slice none 0 0] 52)).alloc (by simp; omega) (.cells #[.string X] 9)).trans hap.low; have ho8 := hap.own; obtain ⟨hS8, hz8⟩ := Hcl.out _ hB8; have hZ8 := RBox.overApp ((RBox.new_at w7 (.int .i64 0) (.slice none 0 0) (n := w7.heap.size) rfl).alloc (.cells #[.string X] 9)) ((ho7.alloc (.cells #[.int .i64 0, .slice none 0 0] 52)).alloc (.cells #[.string X] 9)) hap.grown; obtain ⟨zc0, zc1⟩ := hZ8.cells; have zf := fun i => hZ8.free i))
    all_goals
      go_wp2_with fail
      go_meet
      first
        | exact cut_app (Lib.hid (by simp)) hB8 hZ8 (by omega) ho8
        | exact cut_appl (Lib.hid (by simp)) hB8 ho8
  case rest =>
    clear FA DA HBA FAB DAB HBAB XAB FBA DBA HBBA XBA FAZ DAZ HBAZ ZAZ FZA DZA HBZA ZZA FABZ DABZ HBABZ XABZ ZABZ FAZB DAZB HBAZB XAZB ZAZB FBAZ DBAZ HBBAZ XBAZ ZBAZ FBZA DBZA HBBZA XBZA ZBZA FZAB DZAB HBZAB XZAB ZZAB FZBA DZBA HBZBA XZBA ZZBA Hcl x0 x1 y0 y1 hcell
    obtain ⟨w8, rfl⟩ : ∃ w8 : World, w8 = wc := ⟨_, rfl⟩
    obtain ⟨b, A7, c7, rfl, qb, hβ, lb, ho7, hn7, hb8⟩ := hcut
    have tx_8 := ho7.strs
    generalize done ++ [X] = out at *
    have st_8 := st_3.then_ hb8
    have dn_8 := dn_3.then_ hb8
    have qf_8 := qf_3.then_ hb8
    have qr_8 := qr_3.then_ hb8
    have b_8 := bthen b_3 hb8
    have qx_8 := qb
    have z_8 := b_8.size
    clear qb
    clear st_3 dn_3 qf_3 qr_3 b_3 hb8
    by_cases e2 : st = 2
    · have h2 : (st == 2) = true := by rw [e2]; rfl
      have HO := Hoth.out
      rw [if_pos e2] at HO
      have HO := Lib.hid HO
      clear e2 Hoth
      obtain ⟨ra8, rb8⟩ := id qr_8
      obtain ⟨rc8, rd8⟩ := qr_8.alloc (.cells #[.int .i64 2, .slice (some ad) done.length d] 52)
      obtain ⟨pf80, pf81⟩ := (qf_8.alloc (.cells #[.int .i64 0, .slice (some ad) done.length d] 52))
      obtain ⟨pr80, pr81⟩ := (qr_8.alloc (.cells #[.int .i64 0, .slice (some ad) done.length d] 52))
      obtain ⟨px80, px81⟩ := (qx_8.alloc (.cells #[.int .i64 0, .slice (some ad) done.length d] 52))
      go_wp2_with fail
      (with_reducible refine (iRunValid_any ver st SA A7 sc c7 ss out _ _ _ (st_8.alloc2 _) (tx_8.alloc2 _) hss).mono ?_)
      rintro e w9 ⟨rfl, hr9⟩
      have hb9 : Below w8.heap.size w8 w9 := bthen ((Below.refl _ _).alloc (Nat.le_refl _) _) hr9
      have st_9 := st_8.then_ hb9
      have dn_9 := dn_8.then_ hb9
      have tx_9 := tx_8.then_ hb9
      have qf_9 := qf_8.then_ hb9
      have qr_9 := qr_8.then_ hb9
      have qx_9 := qx_8.then_ hb9
      have qy_9 := (Cell2.new w8 (.int .i64 0) (.slice (some ad) done.length d) 52).then_ hr9
      have b_9 := bthen b_8 hb9
      have z_9 := hb9.size
      clear st_8 dn_8 tx_8 qf_8 qr_8 qx_8 b_8 ra8 rb8 rc8 rd8 pf80 pf81 pr80 pr81 px80 px81 hr9 hb9
      rw [Hbad.out]
      obtain ⟨pf90, pf91⟩ := id qf_9
      obtain ⟨pr90, pr91⟩ := id qr_9
      obtain ⟨px90, px91⟩ := id qx_9
      obtain ⟨py90, py91⟩ := id qy_9
      go_wp2_with fail
      (with_reducible refine (iRunValid_any ver 0 SA (some ad) sc d ss done _ _ _ st_9 dn_9 hss).mono ?_)
      rintro e w10 ⟨rfl, hr10⟩
      have hb10 : Below w9.heap.size w9 w10 := hr10
      have st_10 := st_9.then_ hb10
      have dn_10 := dn_9.then_ hb10
      have tx_10 := tx_9.then_ hb10
      have qf_10 := qf_9.then_ hb10
      have qr_10 := qr_9.then_ hb10
      have qx_10 := qx_9.then_ hb10
      have qy_10 := qy_9.then_ hb10
      have b_10 := bthen b_9 hb10
      have z_10 := hb10.size
      clear st_9 dn_9 tx_9 qf_9 qr_9 qx_9 qy_9 b_9 pf90 pf91 pr90 pr91 px90 px91 py90 py91 hr10 hb10
      rw [HO.out]
      go_wp2_with fail
      go_ret
      exact ⟨rfl, b_10⟩
    · have h2 : (st == 2) = false := beq_eq_false_iff_ne.2 e2
      have HO := Hoth.out
      rw [if_neg e2] at HO
      have HO := Lib.hid HO
      clear e2 Hoth
      obtain ⟨ra8, rb8⟩ := id qr_8
      obtain ⟨pf80, pf81⟩ := (qf_8.alloc (.cells #[.int .i64 2, .slice (some ad) done.length d] 52))
      obtain ⟨pr80, pr81⟩ := (qr_8.alloc (.cells #[.int .i64 2, .slice (some ad) done.length d] 52))
      obtain ⟨px80, px81⟩ := (qx_8.alloc (.cells #[.int .i64 2, .slice (some ad) done.length d] 52))
      go_wp2_with fail
      (with_reducible refine (iRunValid_any ver st SA A7 sc c7 ss out _ _ _ (st_8.alloc2 _) (tx_8.alloc2 _) hss).mono ?_)
      rintro e w9 ⟨rfl, hr9⟩
      have hb9 : Below w8.heap.size w8 w9 := bthen ((Below.refl _ _).alloc (Nat.le_refl _) _) hr9
      have st_9 := st_8.then_ hb9
      have dn_9 := dn_8.then_ hb9
      have tx_9 := tx_8.then_ hb9
      have qf_9 := qf_8.then_ hb9
      have qr_9 := qr_8.then_ hb9
      have qx_9 := qx_8.then_ hb9
      have qy_9 := (Cell2.new w8 (.int .i64 2) (.slice (some ad) done.length d) 52).then_ hr9
      have b_9 := bthen b_8 hb9
      have z_9 := hb9.size
      clear st_8 dn_8 tx_8 qf_8 qr_8 qx_8 b_8 ra8 rb8 pf80 pf81 pr80 pr81 px80 px81 hr9 hb9
      rw [Hbad.out]
      obtain ⟨pf90, pf91⟩ := id qf_9
      obtain ⟨pr90, pr91⟩ := id qr_9
      obtain ⟨px90, px91⟩ := id qx_9
      obtain ⟨py90, py91⟩ := id qy_9
      go_wp2_with fail
      (with_reducible refine (iRunValid_any ver 2 SA (some ad) sc d ss done _ _ _ st_9 dn_9 hss).mono ?_)
      rintro e w10 ⟨rfl, hr10⟩
      have hb10 : Below w9.heap.size w9 w10 := hr10
      have st_10 := st_9.then_ hb10
      have dn_10 := dn_9.then_ hb10
      have tx_10 := tx_9.then_ hb10
      have qf_10 := qf_9.then_ hb10
      have qr_10 := qr_9.then_ hb10
      have qx_10 := qx_9.then_ hb10
      have qy_10 := qy_9.then_ hb10
      have b_10 := bthen b_9 hb10
      have z_10 := hb10.size
      clear st_9 dn_9 tx_9 qf_9 qr_9 qx_9 qy_9 b_9 pf90 pf91 pr90 pr91 px90 px91 py90 py91 hr10 hb10
      rw [HO.out]
      go_wp2_with fail
      go_ret
      exact ⟨rfl, b_10⟩

set_option maxRecDepth 100000 in
theorem fnRunPart_lifted (os : Os) (started : os.Started) (H : Type) (enc : TypeId × Value → H) :
    ReturnsInHanded {} Try.checked os 10 .any (Rows.fnRunPartSpec.pre6 enc Try.prog Try.f10 Rows.fnRunPartRow.domain false) (Rows.fnRunPartSpec.post enc Try.prog Try.f10 false true false false) := by
  refine returnsInHanded_of_change (C := Try.checked) own started (by kernel_rfl) Try.func10
    (ChangeSpec.witness6 (enc := enc) (C := Try.checked) false ⟨#[], #[.slice none 0 0], []⟩ 8 (by kernel_rfl) (by kernel_rfl) (by kernel_rfl) (by kernel_rfl)) ?_
  intro W base args ds gs before hval0 hW _ _
  have hval : ∀ (j : Nat) t v, Try.f10.params[j]? = some t → args[j]? = some v → Value.okWide Try.prog W .any base t v := hval0
  obtain ⟨p, q, hA0, hV, _⟩ := id hW
  have hA : DataW.TrodAll enc Try.prog W 0 (fun _ => true) true Try.f10.params.toList args.toList ds p := hA0
  rw [Try.params10] at hA hval
  obtain ⟨v0, d0, rfl, rfl, h0⟩ := trodAll_one hA
  obtain ⟨rfl, rfl⟩ := trodVars_none hV
  refine (runPart_law W v0 (arg_code (hval 0 _ v0 rfl rfl) h0)).mono fun e W' ⟨he, hw⟩ => ?_
  subst he
  exact ⟨_, rfl, law_post laidOut (readable_of (by kernel_rfl)) rfl Try.underlying4 rfl rfl rfl rfl hW hw⟩

theorem fnRunPart_holds : Rows.FnRunPartSaid :=
  OpenClaim.holds_of_wide 10 Try.f10 rfl rfl rfl rfl rfl rfl rfl ⟨rfl, rfl, rfl, rfl, rfl⟩ rfl rfl rfl rfl rfl (by kernel_rfl) Try.func10 (by kernel_rfl)
    (of_decide_eq_true (by kernel_rfl)) (by unfold Func.isWrapper; rw [if_neg (of_decide_eq_false (by kernel_rfl))]; exact ⟨rfl, rfl⟩)
    (fun os started H enc _ => fnRunPart_lifted os started H enc)

end Go.Proofs.Ytfkjcldaclkkaaa
