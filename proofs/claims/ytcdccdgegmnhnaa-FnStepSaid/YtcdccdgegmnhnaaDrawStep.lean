/- Contracts of the draws of a step: l91Step, DrawStepValid. Condition: the place is small. -/
import Derived.Test.YtcdccdgegmnhnaaDrawFlow
import Derived.Deep.RegionHeld3
namespace Go.Proofs.Ytcdccdgegmnhnaa
set_option linter.unusedVariables false
set_option maxRecDepth 100000
open Go.RowKit

/-- What the draw of a step knows between its statements: the step's block and the names behind it. -/
structure StepSt (B g : Nat) (A : Option Addr) (c : Nat) (zs : List Int) (wi wr : World) (p sb : Nat) (nm : ByteArray) (u : Bool) (A' : Option Addr) (c' : Nat) (xs : List ByteArray) : Prop where
  inn : InnerState B g A c zs wi wr p sb nm u A' c' xs
  six : SixBox wr (sb + 1)
  rowNe : ∀ q, A' = some q → q.block ≠ sb + 1
section
variable {B g c p p' sb c' c'' : Nat} {A A' A'' : Option Addr} {zs : List Int} {wi wr w' : World} {nm nm2 : ByteArray} {u : Bool} {xs : List ByteArray} {o : Obj}
theorem StepSt.after (st : StepSt B g A c zs wi wr p sb nm u A' c' xs) (hr : Rdr w' B g A c zs p') (hg : wr.grownBy w' (some g)) : StepSt B g A c zs wi w' p' sb nm u A' c' xs where
  inn := st.inn.after hr hg
  six := (hg.block (sb + 1) st.six.lt (fun e => by injection e with e; have := st.inn.gl; have := st.inn.sl; omega)).trans st.six
  rowNe := st.rowNe
theorem StepSt.pushed (st : StepSt B g A c zs wi wr p sb nm u A' c' xs) (ha : Appended (wr.drew.alloc o) w' wi.heap.size A' A'' c'' xs nm2) (h4 : xs.length < 4) (hn : nm2.size ≤ 6) :
    StepSt B g A c zs wi (w'.setCell ⟨sb, 1, none⟩ (.slice A'' (xs.length + 1) c'')) p sb nm u A'' c'' (xs ++ [nm2]) := by
  have hsl := st.six.lt
  refine ⟨st.inn.pushed ha h4 hn, ?_, ?_⟩
  · refine (Below.heap_setCell _ _ _ _ (by show sb + 1 ≠ sb; omega)).trans ((ha.grown.block (sb + 1) (by show sb + 1 < (wr.alloc o).heap.size; simp; omega) ?_).trans ((Below.heap_alloc wr o (sb + 1) hsl).trans st.six))
    intro e
    cases A' with
    | none => cases e
    | some q => injection e with e; exact st.rowNe q rfl e.symm
  · intro q e
    subst e
    rcases ha.at_ with hat | hat
    · cases A' with
      | none => cases hat
      | some q' =>
        have hat' : some q.block = some q'.block := hat
        injection hat' with hat'
        rw [hat']
        exact st.rowNe q' rfl
    · have hat' : some q.block = some (wr.alloc o).heap.size := hat
      injection hat' with hat'
      simp at hat'
      omega
theorem StepSt.six_after (st : StepSt B g A c zs wi wr p sb nm u A' c' xs) (ha : Appended (wr.drew.alloc o) w' wi.heap.size A' A'' c'' xs nm2) : SixBox w' (sb + 1) := by
  have hsl := st.six.lt
  refine (ha.grown.block (sb + 1) (by show sb + 1 < (wr.alloc o).heap.size; simp; omega) ?_).trans ((Below.heap_alloc wr o (sb + 1) hsl).trans st.six)
  intro e
  cases A' with
  | none => cases e
  | some q => injection e with e; exact st.rowNe q rfl e.symm
end

theorem fin_box {w4 : World} {r sb : Nat} {z0 z1 z2 : Value} (hrb : StepBox w4 r z0 z1 z2) (hsb : r ≠ sb) (x a0 a1 a2 : Value) (o : Obj) :
    StepBox (((((w4.setCell ⟨sb, 1, none⟩ x).setCell ⟨r, 0, none⟩ a0).setCell ⟨r, 1, none⟩ a1).setCell ⟨r, 2, none⟩ a2).alloc o) r a0 a1 a2 := by
  have h1 : StepBox (w4.setCell ⟨sb, 1, none⟩ x) r z0 z1 z2 := (Below.heap_setCell _ _ _ _ hsb).trans hrb
  have h2 := box_set3 a0 a1 a2 h1
  exact (Below.heap_alloc _ _ _ h2.lt).trans h2
theorem fin_below {w4 : World} {r sb : Nat} (h : r ≤ sb) (h4 : r ≤ w4.heap.size) (x a0 a1 a2 : Value) (o : Obj) :
    Below r w4 (((((w4.setCell ⟨sb, 1, none⟩ x).setCell ⟨r, 0, none⟩ a0).setCell ⟨r, 1, none⟩ a1).setCell ⟨r, 2, none⟩ a2).alloc o) := by
  refine (((((Below.refl _ _).setCell (show r ≤ sb from h) _).setCell (Nat.le_refl r) _).setCell (Nat.le_refl r) _).setCell (Nat.le_refl r) _).alloc ?_ _
  simp [World.setCell]; omega
theorem fin_own {w4 : World} {r sb n : Nat} (h4 : r ≤ w4.heap.size) (x a0 a1 a2 : Value) (xs : List ByteArray) (hn : n = xs.length) (hl : xs.length ≤ 5) (hx : ∀ y ∈ xs, y.size ≤ 6) :
    OwnStrs (((((w4.setCell ⟨sb, 1, none⟩ x).setCell ⟨r, 0, none⟩ a0).setCell ⟨r, 1, none⟩ a1).setCell ⟨r, 2, none⟩ a2).alloc (.cells (xs.map Value.string).toArray 9)) r (some ⟨w4.heap.size, 0, none⟩) n xs := by
  subst hn
  have hz : ((((w4.setCell ⟨sb, 1, none⟩ x).setCell ⟨r, 0, none⟩ a0).setCell ⟨r, 1, none⟩ a1).setCell ⟨r, 2, none⟩ a2).heap.size = w4.heap.size := by simp [World.setCell]
  have h : (((((w4.setCell ⟨sb, 1, none⟩ x).setCell ⟨r, 0, none⟩ a0).setCell ⟨r, 1, none⟩ a1).setCell ⟨r, 2, none⟩ a2).alloc (.cells (xs.map Value.string).toArray 9)).ownsRow r 9 1 (.slice (some ⟨((((w4.setCell ⟨sb, 1, none⟩ x).setCell ⟨r, 0, none⟩ a0).setCell ⟨r, 1, none⟩ a1).setCell ⟨r, 2, none⟩ a2).heap.size, 0, none⟩) xs.length xs.length) xs.length (xs.map Value.string) :=
    World.ownsRow_lit ((((w4.setCell ⟨sb, 1, none⟩ x).setCell ⟨r, 0, none⟩ a0).setCell ⟨r, 1, none⟩ a1).setCell ⟨r, 2, none⟩ a2) (xs.map Value.string).toArray xs.length (by rw [hz]; exact h4) (by simp only [maxLen]; omega) (by simp)
  rw [hz] at h
  exact ⟨h, fun y hy => by have := hx y hy; omega⟩

/-- A step is drawn. -/
def DrawnStep (B g : Nat) (A : Option Addr) (c : Nat) (zs : List Int) (p K : Nat) (w : World) (e : Ending) (w' : World) : Prop :=
  ∃ (nm : ByteArray) (A' : Option Addr) (c' : Nat) (xs : List ByteArray) (u : Bool) (p' : Nat), e = .returned (.agg #[.string nm, .slice A' xs.length c', .bool u]) ∧ nm.size ≤ 6 ∧ OwnStrs w' w.heap.size A' c' xs ∧ xs.length ≤ 5 ∧ (∀ x ∈ xs, x.size ≤ 6) ∧ p' ≤ p + K ∧ Rdr w' B g A c zs p' ∧ w.grownBy w' (some g)

set_option maxHeartbeats 8000000 in
theorem l91Step_any (B g : Nat) (A : Option Addr) (c : Nat) (zs : List Int) (p : Nat) (w : World) (h : Rdr w B g A c zs p) (hp : p ≤ 800000) :
    Calls Try.prog 43 #[.pointer (some ⟨g, 0, none⟩)] w (DrawnStep B g A c zs p 20 w) := by
  have hgl := h.lt
  go_enter Try.func43, Try.ntmps43
  go_wp2_with fail
  obtain ⟨wi, hwi⟩ : ∃ wi, wi = w.alloc (.cells #[.string ⟨#[]⟩, .slice none 0 0, .bool false] 34) := ⟨_, rfl⟩
  have hwz : wi.heap.size = w.heap.size + 1 := by rw [hwi]; simp
  have hwg : w.grownBy wi (some g) := by rw [hwi]; exact World.grownBy_alloc _ _ _
  have hres : StepBox wi w.heap.size (.string ⟨#[]⟩) (.slice none 0 0) (.bool false) := by rw [hwi]; exact StepBox.new w _ _ _
  have hri : Rdr wi B g A c zs p := by rw [hwi]; exact h.alloc _
  rw [← hwi]
  clear hwi h
  refine (l91Name_any B g A c zs p _ hri (by omega)).mono ?_
  rintro e w1 ⟨nm, p1, rfl, hn6, hp1, hr1, hg1⟩
  have hs1 := hg1.size
  go_wp2_with fail
  refine (pick_any B g A c zs p1 _ _ (hr1.alloc _) (by omega)).mono ?_
  rintro e w2 ⟨v, rfl, hv0, hv1, hr2, hg2⟩
  have hs2 := hg2.size
  simp at hs2
  have hlow : ∀ k, k ≤ w1.heap.size → k ≠ g → w2.heap[k]? = (w1.alloc (.cells #[] 9)).heap[k]? := fun k hk hne => hg2.block k (by simp; omega) (fun e => by injection e with e; exact hne e)
  have hgw1 := hr1.lt
  have st : StepSt B g A c zs wi ((w2.alloc (.cells #[.string nm, .slice (some ⟨w1.heap.size, 0, none⟩) 0 0, .bool (decide (0 < v))] 34)).alloc (.cells (sixNames.map Value.string).toArray 9)) (p1 + 1) w2.heap.size nm (decide (0 < v)) (some ⟨w1.heap.size, 0, none⟩) 0 [] := {
    inn := InnerState.mk0 ((hr2.alloc _).alloc _) (grown_alloc (grown_alloc (grown_trans hg1 (grown_trans (World.grownBy_alloc _ _ _) hg2)) _) _) (by omega) w2.heap.size w1.heap.size
      ((Below.heap_alloc _ _ _ (by simp)).trans (StepBox.new w2 _ _ _)) ((Below.heap_alloc _ _ _ (by simp; omega)).trans ((Below.heap_alloc _ _ _ (by omega)).trans ((hlow _ (Nat.le_refl _) (by omega)).trans (heap_alloc_new w1 _)))) (by omega) (by omega) (by omega)
    six := by
      have := heap_alloc_new (w2.alloc (.cells #[.string nm, .slice (some ⟨w1.heap.size, 0, none⟩) 0 0, .bool (decide (0 < v))] 34)) (.cells (sixNames.map Value.string).toArray 9)
      unfold SixBox
      simpa using this
    rowNe := fun q e => by injection e with e; subst e; show w1.heap.size ≠ _; omega }
  have St := Lib.hid st
  clear st hlow hr2 hg2 hr1 hg1 hv1
  go_wp2_with fail
  have hsbw : wi.heap.size ≤ w2.heap.size := by omega
  generalize w2.heap.size = sb at *
  go_loopw [5] (fun i wr => ∃ (k : Nat) (xs : List ByteArray) (A' : Option Addr) (c' p' : Nat), k ≤ 6 ∧ i = .int .i64 k ∧ p' ≤ p1 + 1 + k ∧ StepSt B g A c zs wi wr p' sb nm (decide (0 < v)) A' c' xs) (fun i _ => 6 - (intOf i).toNat)
  case atStart => exact ⟨0, [], _, 0, p1 + 1, by omega, rfl, by omega, St.out⟩
  case round =>
    clear St
    obtain ⟨wq, rfl⟩ : ∃ wq : World, wq = wr := ⟨_, rfl⟩
    obtain ⟨k, xs, A', c', p', hk, rfl, hp', st⟩ := hrel
    by_cases hlt : k < 6
    · have hn := st.six.cell hlt
      have hi0 : (0 : Int) ≤ k := by omega
      have hi1 : (k : Int) < 6 := by omega
      obtain ⟨x, hx⟩ : ∃ x, x = sixNames[k]'(by exact hlt) := ⟨_, rfl⟩
      have hx6 : x.size ≤ 6 := by rw [hx]; exact (sixNames_size _ (List.getElem_mem _)).2
      rw [← hx] at hn
      clear hx
      obtain ⟨s0, s1, s2⟩ := st.inn.box.cells
      have hgl2 := st.inn.gl
      go_upto_region 6 with fail
      go_cut [37] (fun b wx => ∃ bb : Bool, b = .bool bb ∧ (bb = true → xs.length < 4) ∧ StepSt B g A c zs wi wx (p' + 1) sb nm (decide (0 < v)) A' c' xs)
      case first =>
        have hrd := st.inn.rd
        have hS : ∀ w', wq.drew.grownBy w' (some g) → w'.cell? ⟨sb + 1, k, none⟩ = some (.string x) ∧ w'.cell? ⟨sb, 0, none⟩ = some (.string nm) ∧ w'.cell? ⟨sb, 1, none⟩ = some (.slice A' xs.length c') := fun w' hg =>
          ⟨hg.cell (a := ⟨sb + 1, k, none⟩) hn (fun e => by injection e with e; have e' : sb + 1 = g := e; omega), hg.cell (a := ⟨sb, 0, none⟩) s0 (fun e => by injection e with e; have e' : sb = g := e; omega), hg.cell (a := ⟨sb, 1, none⟩) s1 (fun e => by injection e with e; have e' : sb = g := e; omega)⟩
        have HS := Lib.hid hS
        have K := Lib.hid (pick_any B g A c zs p' 4 wq.drew (hrd.keep fun _ _ => rfl) (by omega))
        have Hst := Lib.hid (fun w' (hr : Rdr w' B g A c zs (p' + 1)) (hg : wq.drew.grownBy w' (some g)) => st.after hr (show wq.grownBy w' (some g) from ⟨hg.os, hg.tape, hg.output, hg.size, hg.block⟩))
        clear hS st hrd
        refine wp_region_held_drew (S := fun w' => w'.cell? ⟨sb + 1, k, none⟩ = some (.string x) ∧ w'.cell? ⟨sb, 0, none⟩ = some (.string nm) ∧ w'.cell? ⟨sb, 1, none⟩ = some (.slice A' xs.length c')) (by kernel_rfl) (HS.out _ (World.grownBy.refl _ _)) (fun hHeld => ?_)
        refine wpAnyH_take (i := 0) (oi := ?_) (v := ?_) ?_ (by kernel_rfl) (by kernel_rfl) (by kernel_rfl) ?_ ?_ (by assumption) ?_
        rotate_left 2
        · simp only [List.getElem?_toArray, List.getElem?_cons_zero]; rfl
        · exact fun _ _ _ h => h
        · refine Or.inl ⟨by rfl, ?_⟩; intro w hSw; (try dsimp only at hSw); go_simp; try with_reducible rfl
        try simp only [Act.put, List.setIfInBounds_toArray, List.set_cons_zero, List.set_cons_succ]
        refine wpAnyH_ready (rs := [1]) (by kernel_rfl) (by simp) ?_
        refine AllReadyH.cons rfl (fun Kz hKz => ?_) AllReadyH.nil
        go_simp
        (with_reducible refine K.out.mono ?_)
        rintro e w4 ⟨v4, rfl, hv40, hv41, hr4, hg4⟩
        have hS4 := HS.out _ hg4
        have st4 := Hst.out _ hr4 hg4
        clear hr4 hg4 hv41
        by_cases hv : v4 = 0
        · subst hv
          by_cases hne : x = nm
          · have hq1 : (x.toList != nm.toList) = false := by rw [hne]; simp
            have hq2 : (x.toList == nm.toList) = true := by rw [hne]; simp
            clear hne
            go_wp2_with fail
            refine hKz.out _ _ ?_ (fun hHeld => ?_)
            rotate_left
            clear hKz Kz
            try simp only [Act.put, List.setIfInBounds_toArray, List.set_cons_zero, List.set_cons_succ]
            rotate_left
            · exact hS4
            refine wpAnyH_take (i := 2) (oi := ?_) (v := ?_) ?_ (by kernel_rfl) (by kernel_rfl) (by kernel_rfl) ?_ ?_ (by assumption) ?_
            rotate_left 2
            · simp only [List.getElem?_toArray, List.getElem?_cons_zero, List.getElem?_cons_succ]; rfl
            · exact fun _ _ _ h => h
            · refine Or.inl ⟨by rfl, ?_⟩; intro w hSw; (try dsimp only at hSw); go_simp; try with_reducible rfl
            try simp only [Act.put, List.setIfInBounds_toArray, List.set_cons_zero, List.set_cons_succ]
            refine wpAnyH_take (i := 3) (oi := ?_) (v := ?_) ?_ (by kernel_rfl) (by kernel_rfl) (by kernel_rfl) ?_ ?_ (by assumption) ?_
            rotate_left 2
            · simp only [List.getElem?_toArray, List.getElem?_cons_zero, List.getElem?_cons_succ]; rfl
            · exact fun _ _ _ h => h
            · refine Or.inl ⟨by rfl, ?_⟩; intro w hSw; (try dsimp only at hSw); go_simp; try with_reducible rfl
            try simp only [Act.put, List.setIfInBounds_toArray, List.set_cons_zero, List.set_cons_succ]
            refine wpAnyH_take (i := 4) (oi := ?_) (v := ?_) ?_ (by kernel_rfl) (by kernel_rfl) (by kernel_rfl) ?_ ?_ (by assumption) ?_
            rotate_left 2
            · simp only [List.getElem?_toArray, List.getElem?_cons_zero, List.getElem?_cons_succ]; rfl
            · exact fun _ _ _ h => h
            · refine Or.inl ⟨by rfl, ?_⟩; intro w hSw; (try dsimp only at hSw); go_simp; try with_reducible rfl
            try simp only [Act.put, List.setIfInBounds_toArray, List.set_cons_zero, List.set_cons_succ]
            refine wpAnyH_take (i := 5) (oi := ?_) (v := ?_) ?_ (by kernel_rfl) (by kernel_rfl) (by kernel_rfl) ?_ ?_ (by assumption) ?_
            rotate_left 2
            · simp only [List.getElem?_toArray, List.getElem?_cons_zero, List.getElem?_cons_succ]; rfl
            · exact fun _ _ _ h => h
            · refine Or.inl ⟨by rfl, ?_⟩; intro w hSw; (try dsimp only at hSw); go_simp; try with_reducible rfl
            try simp only [Act.put, List.setIfInBounds_toArray, List.set_cons_zero, List.set_cons_succ]
            refine wpAnyH_take (i := 6) (oi := ?_) (v := ?_) ?_ (by kernel_rfl) (by kernel_rfl) (by kernel_rfl) ?_ ?_ (by assumption) ?_
            rotate_left 2
            · simp only [List.getElem?_toArray, List.getElem?_cons_zero, List.getElem?_cons_succ]; rfl
            · exact fun _ _ _ h => h
            · refine Or.inl ⟨by rfl, ?_⟩; intro w hSw; (try dsimp only at hSw); go_simp; try with_reducible rfl
            try simp only [Act.put, List.setIfInBounds_toArray, List.set_cons_zero, List.set_cons_succ]
            refine wpAnyH_take (i := 7) (oi := ?_) (v := ?_) ?_ (by kernel_rfl) (by kernel_rfl) (by kernel_rfl) ?_ ?_ (by assumption) ?_
            rotate_left 2
            · simp only [List.getElem?_toArray, List.getElem?_cons_zero, List.getElem?_cons_succ]; rfl
            · exact fun _ _ _ h => h
            · refine Or.inl ⟨by rfl, ?_⟩; intro w hSw; (try dsimp only at hSw); go_simp; try with_reducible rfl
            try simp only [Act.put, List.setIfInBounds_toArray, List.set_cons_zero, List.set_cons_succ]
            refine wpAnyH_take (i := 8) (oi := ?_) (v := ?_) ?_ (by kernel_rfl) (by kernel_rfl) (by kernel_rfl) ?_ ?_ (by assumption) ?_
            rotate_left 2
            · simp only [List.getElem?_toArray, List.getElem?_cons_zero, List.getElem?_cons_succ]; rfl
            · exact fun _ _ _ h => h
            · refine Or.inl ⟨by rfl, ?_⟩; intro w hSw; (try dsimp only at hSw); go_simp; try with_reducible rfl
            try simp only [Act.put, List.setIfInBounds_toArray, List.set_cons_zero, List.set_cons_succ]
            refine wpAnyH_take (i := 9) (oi := ?_) (v := ?_) ?_ (by kernel_rfl) (by kernel_rfl) (by kernel_rfl) ?_ ?_ (by assumption) ?_
            rotate_left 2
            · simp only [List.getElem?_toArray, List.getElem?_cons_zero, List.getElem?_cons_succ]; rfl
            · exact fun _ _ _ h => h
            · refine Or.inl ⟨by rfl, ?_⟩; intro w hSw; (try dsimp only at hSw); go_simp; try with_reducible rfl
            try simp only [Act.put, List.setIfInBounds_toArray, List.set_cons_zero, List.set_cons_succ]
            refine wpAnyH_take (i := 10) (oi := ?_) (v := ?_) ?_ (by kernel_rfl) (by kernel_rfl) (by kernel_rfl) ?_ ?_ (by assumption) ?_
            rotate_left 2
            · simp only [List.getElem?_toArray, List.getElem?_cons_zero, List.getElem?_cons_succ]; rfl
            · exact fun _ _ _ h => h
            · refine Or.inl ⟨by rfl, ?_⟩; intro w hSw; (try dsimp only at hSw); go_simp; try with_reducible rfl
            try simp only [Act.put, List.setIfInBounds_toArray, List.set_cons_zero, List.set_cons_succ]
            refine wpAnyH_take (i := 11) (oi := ?_) (v := ?_) ?_ (by kernel_rfl) (by kernel_rfl) (by kernel_rfl) ?_ ?_ (by assumption) ?_
            rotate_left 2
            · simp only [List.getElem?_toArray, List.getElem?_cons_zero, List.getElem?_cons_succ]; rfl
            · exact fun _ _ _ h => h
            · refine Or.inl ⟨by rfl, ?_⟩; intro w hSw; (try dsimp only at hSw); go_simp; try with_reducible rfl
            try simp only [Act.put, List.setIfInBounds_toArray, List.set_cons_zero, List.set_cons_succ]
            refine wpAnyH_take (i := 12) (oi := ?_) (v := ?_) ?_ (by kernel_rfl) (by kernel_rfl) (by kernel_rfl) ?_ ?_ (by assumption) ?_
            rotate_left 2
            · simp only [List.getElem?_toArray, List.getElem?_cons_zero, List.getElem?_cons_succ]; rfl
            · exact fun _ _ _ h => h
            · refine Or.inl ⟨by rfl, ?_⟩; intro w hSw; (try dsimp only at hSw); go_simp; try with_reducible rfl
            try simp only [Act.put, List.setIfInBounds_toArray, List.set_cons_zero, List.set_cons_succ]
            refine wpAnyH_take (i := 13) (oi := ?_) (v := undef) ?_ (by kernel_rfl) (by kernel_rfl) (by kernel_rfl) ?_ ?_ (by assumption) ?_
            rotate_left 1
            · simp only [List.getElem?_toArray, List.getElem?_cons_zero, List.getElem?_cons_succ]; rfl
            · exact fun _ _ _ h => h
            · exact Or.inr ⟨by rfl, rfl⟩
            try simp only [Act.put, List.setIfInBounds_toArray, List.set_cons_zero, List.set_cons_succ]
            refine wpAnyH_take (i := 14) (oi := ?_) (v := undef) ?_ (by kernel_rfl) (by kernel_rfl) (by kernel_rfl) ?_ ?_ (by assumption) ?_
            rotate_left 1
            · simp only [List.getElem?_toArray, List.getElem?_cons_zero, List.getElem?_cons_succ]; rfl
            · exact fun _ _ _ h => h
            · exact Or.inr ⟨by rfl, rfl⟩
            try simp only [Act.put, List.setIfInBounds_toArray, List.set_cons_zero, List.set_cons_succ]
            refine wpAnyH_take (i := 15) (oi := ?_) (v := undef) ?_ (by kernel_rfl) (by kernel_rfl) (by kernel_rfl) ?_ ?_ (by assumption) ?_
            rotate_left 1
            · simp only [List.getElem?_toArray, List.getElem?_cons_zero, List.getElem?_cons_succ]; rfl
            · exact fun _ _ _ h => h
            · exact Or.inr ⟨by rfl, rfl⟩
            try simp only [Act.put, List.setIfInBounds_toArray, List.set_cons_zero, List.set_cons_succ]
            refine wpAnyH_take (i := 16) (oi := ?_) (v := undef) ?_ (by kernel_rfl) (by kernel_rfl) (by kernel_rfl) ?_ ?_ (by assumption) ?_
            rotate_left 1
            · simp only [List.getElem?_toArray, List.getElem?_cons_zero, List.getElem?_cons_succ]; rfl
            · exact fun _ _ _ h => h
            · exact Or.inr ⟨by rfl, rfl⟩
            try simp only [Act.put, List.setIfInBounds_toArray, List.set_cons_zero, List.set_cons_succ]
            refine wpAnyH_take (i := 17) (oi := ?_) (v := ?_) ?_ (by kernel_rfl) (by kernel_rfl) (by kernel_rfl) ?_ ?_ (by assumption) ?_
            rotate_left 2
            · simp only [List.getElem?_toArray, List.getElem?_cons_zero, List.getElem?_cons_succ]; rfl
            · exact fun _ _ _ h => h
            · refine Or.inl ⟨by rfl, ?_⟩; intro w hSw; (try dsimp only at hSw); go_simp; try with_reducible rfl
            try simp only [Act.put, List.setIfInBounds_toArray, List.set_cons_zero, List.set_cons_succ]
            refine wpAnyH_done (by kernel_rfl) ?_ _
            go_wp2_with fail
            go_meet
            exact ⟨false, rfl, by simp, st4⟩
          · have hq1 : (x.toList != nm.toList) = true := by rw [bne_iff_ne]; intro e; exact hne (toList_inj e)
            have hq2 : (x.toList == nm.toList) = false := by
              cases hq : (x.toList == nm.toList)
              · rfl
              · exact absurd (str_eq hq) hne
            clear hne
            by_cases h4 : xs.length < 4
            · have h4' : decide ((xs.length : Int) < 4) = true := decide_eq_true (by omega)
              go_wp2_with fail
              refine hKz.out _ _ ?_ (fun hHeld => ?_)
              rotate_left
              clear hKz Kz
              try simp only [Act.put, List.setIfInBounds_toArray, List.set_cons_zero, List.set_cons_succ]
              rotate_left
              · exact hS4
              refine wpAnyH_take (i := 2) (oi := ?_) (v := ?_) ?_ (by kernel_rfl) (by kernel_rfl) (by kernel_rfl) ?_ ?_ (by assumption) ?_
              rotate_left 2
              · simp only [List.getElem?_toArray, List.getElem?_cons_zero, List.getElem?_cons_succ]; rfl
              · exact fun _ _ _ h => h
              · refine Or.inl ⟨by rfl, ?_⟩; intro w hSw; (try dsimp only at hSw); go_simp; try with_reducible rfl
              try simp only [Act.put, List.setIfInBounds_toArray, List.set_cons_zero, List.set_cons_succ]
              refine wpAnyH_take (i := 3) (oi := ?_) (v := ?_) ?_ (by kernel_rfl) (by kernel_rfl) (by kernel_rfl) ?_ ?_ (by assumption) ?_
              rotate_left 2
              · simp only [List.getElem?_toArray, List.getElem?_cons_zero, List.getElem?_cons_succ]; rfl
              · exact fun _ _ _ h => h
              · refine Or.inl ⟨by rfl, ?_⟩; intro w hSw; (try dsimp only at hSw); go_simp; try with_reducible rfl
              try simp only [Act.put, List.setIfInBounds_toArray, List.set_cons_zero, List.set_cons_succ]
              refine wpAnyH_take (i := 4) (oi := ?_) (v := ?_) ?_ (by kernel_rfl) (by kernel_rfl) (by kernel_rfl) ?_ ?_ (by assumption) ?_
              rotate_left 2
              · simp only [List.getElem?_toArray, List.getElem?_cons_zero, List.getElem?_cons_succ]; rfl
              · exact fun _ _ _ h => h
              · refine Or.inl ⟨by rfl, ?_⟩; intro w hSw; (try dsimp only at hSw); go_simp; try with_reducible rfl
              try simp only [Act.put, List.setIfInBounds_toArray, List.set_cons_zero, List.set_cons_succ]
              refine wpAnyH_take (i := 5) (oi := ?_) (v := ?_) ?_ (by kernel_rfl) (by kernel_rfl) (by kernel_rfl) ?_ ?_ (by assumption) ?_
              rotate_left 2
              · simp only [List.getElem?_toArray, List.getElem?_cons_zero, List.getElem?_cons_succ]; rfl
              · exact fun _ _ _ h => h
              · refine Or.inl ⟨by rfl, ?_⟩; intro w hSw; (try dsimp only at hSw); go_simp; try with_reducible rfl
              try simp only [Act.put, List.setIfInBounds_toArray, List.set_cons_zero, List.set_cons_succ]
              refine wpAnyH_take (i := 6) (oi := ?_) (v := ?_) ?_ (by kernel_rfl) (by kernel_rfl) (by kernel_rfl) ?_ ?_ (by assumption) ?_
              rotate_left 2
              · simp only [List.getElem?_toArray, List.getElem?_cons_zero, List.getElem?_cons_succ]; rfl
              · exact fun _ _ _ h => h
              · refine Or.inl ⟨by rfl, ?_⟩; intro w hSw; (try dsimp only at hSw); go_simp; try with_reducible rfl
              try simp only [Act.put, List.setIfInBounds_toArray, List.set_cons_zero, List.set_cons_succ]
              refine wpAnyH_take (i := 7) (oi := ?_) (v := ?_) ?_ (by kernel_rfl) (by kernel_rfl) (by kernel_rfl) ?_ ?_ (by assumption) ?_
              rotate_left 2
              · simp only [List.getElem?_toArray, List.getElem?_cons_zero, List.getElem?_cons_succ]; rfl
              · exact fun _ _ _ h => h
              · refine Or.inl ⟨by rfl, ?_⟩; intro w hSw; (try dsimp only at hSw); go_simp; try with_reducible rfl
              try simp only [Act.put, List.setIfInBounds_toArray, List.set_cons_zero, List.set_cons_succ]
              refine wpAnyH_take (i := 8) (oi := ?_) (v := ?_) ?_ (by kernel_rfl) (by kernel_rfl) (by kernel_rfl) ?_ ?_ (by assumption) ?_
              rotate_left 2
              · simp only [List.getElem?_toArray, List.getElem?_cons_zero, List.getElem?_cons_succ]; rfl
              · exact fun _ _ _ h => h
              · refine Or.inl ⟨by rfl, ?_⟩; intro w hSw; (try dsimp only at hSw); go_simp; try with_reducible rfl
              try simp only [Act.put, List.setIfInBounds_toArray, List.set_cons_zero, List.set_cons_succ]
              refine wpAnyH_take (i := 9) (oi := ?_) (v := ?_) ?_ (by kernel_rfl) (by kernel_rfl) (by kernel_rfl) ?_ ?_ (by assumption) ?_
              rotate_left 2
              · simp only [List.getElem?_toArray, List.getElem?_cons_zero, List.getElem?_cons_succ]; rfl
              · exact fun _ _ _ h => h
              · refine Or.inl ⟨by rfl, ?_⟩; intro w hSw; (try dsimp only at hSw); go_simp; try with_reducible rfl
              try simp only [Act.put, List.setIfInBounds_toArray, List.set_cons_zero, List.set_cons_succ]
              refine wpAnyH_take (i := 10) (oi := ?_) (v := ?_) ?_ (by kernel_rfl) (by kernel_rfl) (by kernel_rfl) ?_ ?_ (by assumption) ?_
              rotate_left 2
              · simp only [List.getElem?_toArray, List.getElem?_cons_zero, List.getElem?_cons_succ]; rfl
              · exact fun _ _ _ h => h
              · refine Or.inl ⟨by rfl, ?_⟩; intro w hSw; (try dsimp only at hSw); go_simp; try with_reducible rfl
              try simp only [Act.put, List.setIfInBounds_toArray, List.set_cons_zero, List.set_cons_succ]
              refine wpAnyH_take (i := 11) (oi := ?_) (v := ?_) ?_ (by kernel_rfl) (by kernel_rfl) (by kernel_rfl) ?_ ?_ (by assumption) ?_
              rotate_left 2
              · simp only [List.getElem?_toArray, List.getElem?_cons_zero, List.getElem?_cons_succ]; rfl
              · exact fun _ _ _ h => h
              · refine Or.inl ⟨by rfl, ?_⟩; intro w hSw; (try dsimp only at hSw); go_simp; try with_reducible rfl
              try simp only [Act.put, List.setIfInBounds_toArray, List.set_cons_zero, List.set_cons_succ]
              refine wpAnyH_take (i := 12) (oi := ?_) (v := ?_) ?_ (by kernel_rfl) (by kernel_rfl) (by kernel_rfl) ?_ ?_ (by assumption) ?_
              rotate_left 2
              · simp only [List.getElem?_toArray, List.getElem?_cons_zero, List.getElem?_cons_succ]; rfl
              · exact fun _ _ _ h => h
              · refine Or.inl ⟨by rfl, ?_⟩; intro w hSw; (try dsimp only at hSw); go_simp; try with_reducible rfl
              try simp only [Act.put, List.setIfInBounds_toArray, List.set_cons_zero, List.set_cons_succ]
              refine wpAnyH_take (i := 13) (oi := ?_) (v := ?_) ?_ (by kernel_rfl) (by kernel_rfl) (by kernel_rfl) ?_ ?_ (by assumption) ?_
              rotate_left 2
              · simp only [List.getElem?_toArray, List.getElem?_cons_zero, List.getElem?_cons_succ]; rfl
              · exact fun _ _ _ h => h
              · refine Or.inl ⟨by rfl, ?_⟩; intro w hSw; (try dsimp only at hSw); go_simp; try with_reducible rfl
              try simp only [Act.put, List.setIfInBounds_toArray, List.set_cons_zero, List.set_cons_succ]
              refine wpAnyH_take (i := 14) (oi := ?_) (v := ?_) ?_ (by kernel_rfl) (by kernel_rfl) (by kernel_rfl) ?_ ?_ (by assumption) ?_
              rotate_left 2
              · simp only [List.getElem?_toArray, List.getElem?_cons_zero, List.getElem?_cons_succ]; rfl
              · exact fun _ _ _ h => h
              · refine Or.inl ⟨by rfl, ?_⟩; intro w hSw; (try dsimp only at hSw); go_simp; try with_reducible rfl
              try simp only [Act.put, List.setIfInBounds_toArray, List.set_cons_zero, List.set_cons_succ]
              refine wpAnyH_take (i := 15) (oi := ?_) (v := ?_) ?_ (by kernel_rfl) (by kernel_rfl) (by kernel_rfl) ?_ ?_ (by assumption) ?_
              rotate_left 2
              · simp only [List.getElem?_toArray, List.getElem?_cons_zero, List.getElem?_cons_succ]; rfl
              · exact fun _ _ _ h => h
              · refine Or.inl ⟨by rfl, ?_⟩; intro w hSw; (try dsimp only at hSw); go_simp; try with_reducible rfl
              try simp only [Act.put, List.setIfInBounds_toArray, List.set_cons_zero, List.set_cons_succ]
              refine wpAnyH_take (i := 16) (oi := ?_) (v := ?_) ?_ (by kernel_rfl) (by kernel_rfl) (by kernel_rfl) ?_ ?_ (by assumption) ?_
              rotate_left 2
              · simp only [List.getElem?_toArray, List.getElem?_cons_zero, List.getElem?_cons_succ]; rfl
              · exact fun _ _ _ h => h
              · refine Or.inl ⟨by rfl, ?_⟩; intro w hSw; (try dsimp only at hSw); go_simp; try with_reducible rfl
              try simp only [Act.put, List.setIfInBounds_toArray, List.set_cons_zero, List.set_cons_succ]
              refine wpAnyH_take (i := 17) (oi := ?_) (v := ?_) ?_ (by kernel_rfl) (by kernel_rfl) (by kernel_rfl) ?_ ?_ (by assumption) ?_
              rotate_left 2
              · simp only [List.getElem?_toArray, List.getElem?_cons_zero, List.getElem?_cons_succ]; rfl
              · exact fun _ _ _ h => h
              · refine Or.inl ⟨by rfl, ?_⟩; intro w hSw; (try dsimp only at hSw); go_simp; try with_reducible rfl
              try simp only [Act.put, List.setIfInBounds_toArray, List.set_cons_zero, List.set_cons_succ]
              refine wpAnyH_done (by kernel_rfl) ?_ _
              go_wp2_with fail
              go_meet
              exact ⟨true, by first | rfl | rw [h4'], fun _ => h4, st4⟩
            · have h4' : decide ((xs.length : Int) < 4) = false := decide_eq_false (by omega)
              go_wp2_with fail
              refine hKz.out _ _ ?_ (fun hHeld => ?_)
              rotate_left
              clear hKz Kz
              try simp only [Act.put, List.setIfInBounds_toArray, List.set_cons_zero, List.set_cons_succ]
              rotate_left
              · exact hS4
              refine wpAnyH_take (i := 2) (oi := ?_) (v := ?_) ?_ (by kernel_rfl) (by kernel_rfl) (by kernel_rfl) ?_ ?_ (by assumption) ?_
              rotate_left 2
              · simp only [List.getElem?_toArray, List.getElem?_cons_zero, List.getElem?_cons_succ]; rfl
              · exact fun _ _ _ h => h
              · refine Or.inl ⟨by rfl, ?_⟩; intro w hSw; (try dsimp only at hSw); go_simp; try with_reducible rfl
              try simp only [Act.put, List.setIfInBounds_toArray, List.set_cons_zero, List.set_cons_succ]
              refine wpAnyH_take (i := 3) (oi := ?_) (v := ?_) ?_ (by kernel_rfl) (by kernel_rfl) (by kernel_rfl) ?_ ?_ (by assumption) ?_
              rotate_left 2
              · simp only [List.getElem?_toArray, List.getElem?_cons_zero, List.getElem?_cons_succ]; rfl
              · exact fun _ _ _ h => h
              · refine Or.inl ⟨by rfl, ?_⟩; intro w hSw; (try dsimp only at hSw); go_simp; try with_reducible rfl
              try simp only [Act.put, List.setIfInBounds_toArray, List.set_cons_zero, List.set_cons_succ]
              refine wpAnyH_take (i := 4) (oi := ?_) (v := ?_) ?_ (by kernel_rfl) (by kernel_rfl) (by kernel_rfl) ?_ ?_ (by assumption) ?_
              rotate_left 2
              · simp only [List.getElem?_toArray, List.getElem?_cons_zero, List.getElem?_cons_succ]; rfl
              · exact fun _ _ _ h => h
              · refine Or.inl ⟨by rfl, ?_⟩; intro w hSw; (try dsimp only at hSw); go_simp; try with_reducible rfl
              try simp only [Act.put, List.setIfInBounds_toArray, List.set_cons_zero, List.set_cons_succ]
              refine wpAnyH_take (i := 5) (oi := ?_) (v := ?_) ?_ (by kernel_rfl) (by kernel_rfl) (by kernel_rfl) ?_ ?_ (by assumption) ?_
              rotate_left 2
              · simp only [List.getElem?_toArray, List.getElem?_cons_zero, List.getElem?_cons_succ]; rfl
              · exact fun _ _ _ h => h
              · refine Or.inl ⟨by rfl, ?_⟩; intro w hSw; (try dsimp only at hSw); go_simp; try with_reducible rfl
              try simp only [Act.put, List.setIfInBounds_toArray, List.set_cons_zero, List.set_cons_succ]
              refine wpAnyH_take (i := 6) (oi := ?_) (v := ?_) ?_ (by kernel_rfl) (by kernel_rfl) (by kernel_rfl) ?_ ?_ (by assumption) ?_
              rotate_left 2
              · simp only [List.getElem?_toArray, List.getElem?_cons_zero, List.getElem?_cons_succ]; rfl
              · exact fun _ _ _ h => h
              · refine Or.inl ⟨by rfl, ?_⟩; intro w hSw; (try dsimp only at hSw); go_simp; try with_reducible rfl
              try simp only [Act.put, List.setIfInBounds_toArray, List.set_cons_zero, List.set_cons_succ]
              refine wpAnyH_take (i := 7) (oi := ?_) (v := ?_) ?_ (by kernel_rfl) (by kernel_rfl) (by kernel_rfl) ?_ ?_ (by assumption) ?_
              rotate_left 2
              · simp only [List.getElem?_toArray, List.getElem?_cons_zero, List.getElem?_cons_succ]; rfl
              · exact fun _ _ _ h => h
              · refine Or.inl ⟨by rfl, ?_⟩; intro w hSw; (try dsimp only at hSw); go_simp; try with_reducible rfl
              try simp only [Act.put, List.setIfInBounds_toArray, List.set_cons_zero, List.set_cons_succ]
              refine wpAnyH_take (i := 8) (oi := ?_) (v := ?_) ?_ (by kernel_rfl) (by kernel_rfl) (by kernel_rfl) ?_ ?_ (by assumption) ?_
              rotate_left 2
              · simp only [List.getElem?_toArray, List.getElem?_cons_zero, List.getElem?_cons_succ]; rfl
              · exact fun _ _ _ h => h
              · refine Or.inl ⟨by rfl, ?_⟩; intro w hSw; (try dsimp only at hSw); go_simp; try with_reducible rfl
              try simp only [Act.put, List.setIfInBounds_toArray, List.set_cons_zero, List.set_cons_succ]
              refine wpAnyH_take (i := 9) (oi := ?_) (v := ?_) ?_ (by kernel_rfl) (by kernel_rfl) (by kernel_rfl) ?_ ?_ (by assumption) ?_
              rotate_left 2
              · simp only [List.getElem?_toArray, List.getElem?_cons_zero, List.getElem?_cons_succ]; rfl
              · exact fun _ _ _ h => h
              · refine Or.inl ⟨by rfl, ?_⟩; intro w hSw; (try dsimp only at hSw); go_simp; try with_reducible rfl
              try simp only [Act.put, List.setIfInBounds_toArray, List.set_cons_zero, List.set_cons_succ]
              refine wpAnyH_take (i := 10) (oi := ?_) (v := ?_) ?_ (by kernel_rfl) (by kernel_rfl) (by kernel_rfl) ?_ ?_ (by assumption) ?_
              rotate_left 2
              · simp only [List.getElem?_toArray, List.getElem?_cons_zero, List.getElem?_cons_succ]; rfl
              · exact fun _ _ _ h => h
              · refine Or.inl ⟨by rfl, ?_⟩; intro w hSw; (try dsimp only at hSw); go_simp; try with_reducible rfl
              try simp only [Act.put, List.setIfInBounds_toArray, List.set_cons_zero, List.set_cons_succ]
              refine wpAnyH_take (i := 11) (oi := ?_) (v := ?_) ?_ (by kernel_rfl) (by kernel_rfl) (by kernel_rfl) ?_ ?_ (by assumption) ?_
              rotate_left 2
              · simp only [List.getElem?_toArray, List.getElem?_cons_zero, List.getElem?_cons_succ]; rfl
              · exact fun _ _ _ h => h
              · refine Or.inl ⟨by rfl, ?_⟩; intro w hSw; (try dsimp only at hSw); go_simp; try with_reducible rfl
              try simp only [Act.put, List.setIfInBounds_toArray, List.set_cons_zero, List.set_cons_succ]
              refine wpAnyH_take (i := 12) (oi := ?_) (v := ?_) ?_ (by kernel_rfl) (by kernel_rfl) (by kernel_rfl) ?_ ?_ (by assumption) ?_
              rotate_left 2
              · simp only [List.getElem?_toArray, List.getElem?_cons_zero, List.getElem?_cons_succ]; rfl
              · exact fun _ _ _ h => h
              · refine Or.inl ⟨by rfl, ?_⟩; intro w hSw; (try dsimp only at hSw); go_simp; try with_reducible rfl
              try simp only [Act.put, List.setIfInBounds_toArray, List.set_cons_zero, List.set_cons_succ]
              refine wpAnyH_take (i := 13) (oi := ?_) (v := ?_) ?_ (by kernel_rfl) (by kernel_rfl) (by kernel_rfl) ?_ ?_ (by assumption) ?_
              rotate_left 2
              · simp only [List.getElem?_toArray, List.getElem?_cons_zero, List.getElem?_cons_succ]; rfl
              · exact fun _ _ _ h => h
              · refine Or.inl ⟨by rfl, ?_⟩; intro w hSw; (try dsimp only at hSw); go_simp; try with_reducible rfl
              try simp only [Act.put, List.setIfInBounds_toArray, List.set_cons_zero, List.set_cons_succ]
              refine wpAnyH_take (i := 14) (oi := ?_) (v := ?_) ?_ (by kernel_rfl) (by kernel_rfl) (by kernel_rfl) ?_ ?_ (by assumption) ?_
              rotate_left 2
              · simp only [List.getElem?_toArray, List.getElem?_cons_zero, List.getElem?_cons_succ]; rfl
              · exact fun _ _ _ h => h
              · refine Or.inl ⟨by rfl, ?_⟩; intro w hSw; (try dsimp only at hSw); go_simp; try with_reducible rfl
              try simp only [Act.put, List.setIfInBounds_toArray, List.set_cons_zero, List.set_cons_succ]
              refine wpAnyH_take (i := 15) (oi := ?_) (v := ?_) ?_ (by kernel_rfl) (by kernel_rfl) (by kernel_rfl) ?_ ?_ (by assumption) ?_
              rotate_left 2
              · simp only [List.getElem?_toArray, List.getElem?_cons_zero, List.getElem?_cons_succ]; rfl
              · exact fun _ _ _ h => h
              · refine Or.inl ⟨by rfl, ?_⟩; intro w hSw; (try dsimp only at hSw); go_simp; try with_reducible rfl
              try simp only [Act.put, List.setIfInBounds_toArray, List.set_cons_zero, List.set_cons_succ]
              refine wpAnyH_take (i := 16) (oi := ?_) (v := ?_) ?_ (by kernel_rfl) (by kernel_rfl) (by kernel_rfl) ?_ ?_ (by assumption) ?_
              rotate_left 2
              · simp only [List.getElem?_toArray, List.getElem?_cons_zero, List.getElem?_cons_succ]; rfl
              · exact fun _ _ _ h => h
              · refine Or.inl ⟨by rfl, ?_⟩; intro w hSw; (try dsimp only at hSw); go_simp; try with_reducible rfl
              try simp only [Act.put, List.setIfInBounds_toArray, List.set_cons_zero, List.set_cons_succ]
              refine wpAnyH_take (i := 17) (oi := ?_) (v := ?_) ?_ (by kernel_rfl) (by kernel_rfl) (by kernel_rfl) ?_ ?_ (by assumption) ?_
              rotate_left 2
              · simp only [List.getElem?_toArray, List.getElem?_cons_zero, List.getElem?_cons_succ]; rfl
              · exact fun _ _ _ h => h
              · refine Or.inl ⟨by rfl, ?_⟩; intro w hSw; (try dsimp only at hSw); go_simp; try with_reducible rfl
              try simp only [Act.put, List.setIfInBounds_toArray, List.set_cons_zero, List.set_cons_succ]
              refine wpAnyH_done (by kernel_rfl) ?_ _
              go_wp2_with fail
              go_meet
              exact ⟨false, by first | rfl | rw [h4'], by simp, st4⟩
        · have hv' : (v4 == 0) = false := by simpa using hv
          clear hv
          go_wp2_with fail
          refine hKz.out _ _ ?_ (fun hHeld => ?_)
          rotate_left
          clear hKz Kz
          try simp only [Act.put, List.setIfInBounds_toArray, List.set_cons_zero, List.set_cons_succ]
          rotate_left
          · exact hS4
          refine wpAnyH_take (i := 2) (oi := ?_) (v := ?_) ?_ (by kernel_rfl) (by kernel_rfl) (by kernel_rfl) ?_ ?_ (by assumption) ?_
          rotate_left 2
          · simp only [List.getElem?_toArray, List.getElem?_cons_zero, List.getElem?_cons_succ]; rfl
          · exact fun _ _ _ h => h
          · refine Or.inl ⟨by rfl, ?_⟩; intro w hSw; (try dsimp only at hSw); go_simp; try with_reducible rfl
          try simp only [Act.put, List.setIfInBounds_toArray, List.set_cons_zero, List.set_cons_succ]
          refine wpAnyH_take (i := 3) (oi := ?_) (v := ?_) ?_ (by kernel_rfl) (by kernel_rfl) (by kernel_rfl) ?_ ?_ (by assumption) ?_
          rotate_left 2
          · simp only [List.getElem?_toArray, List.getElem?_cons_zero, List.getElem?_cons_succ]; rfl
          · exact fun _ _ _ h => h
          · refine Or.inl ⟨by rfl, ?_⟩; intro w hSw; (try dsimp only at hSw); go_simp; try with_reducible rfl
          try simp only [Act.put, List.setIfInBounds_toArray, List.set_cons_zero, List.set_cons_succ]
          refine wpAnyH_take (i := 4) (oi := ?_) (v := undef) ?_ (by kernel_rfl) (by kernel_rfl) (by kernel_rfl) ?_ ?_ (by assumption) ?_
          rotate_left 1
          · simp only [List.getElem?_toArray, List.getElem?_cons_zero, List.getElem?_cons_succ]; rfl
          · exact fun _ _ _ h => h
          · exact Or.inr ⟨by rfl, rfl⟩
          try simp only [Act.put, List.setIfInBounds_toArray, List.set_cons_zero, List.set_cons_succ]
          refine wpAnyH_take (i := 5) (oi := ?_) (v := undef) ?_ (by kernel_rfl) (by kernel_rfl) (by kernel_rfl) ?_ ?_ (by assumption) ?_
          rotate_left 1
          · simp only [List.getElem?_toArray, List.getElem?_cons_zero, List.getElem?_cons_succ]; rfl
          · exact fun _ _ _ h => h
          · exact Or.inr ⟨by rfl, rfl⟩
          try simp only [Act.put, List.setIfInBounds_toArray, List.set_cons_zero, List.set_cons_succ]
          refine wpAnyH_take (i := 6) (oi := ?_) (v := undef) ?_ (by kernel_rfl) (by kernel_rfl) (by kernel_rfl) ?_ ?_ (by assumption) ?_
          rotate_left 1
          · simp only [List.getElem?_toArray, List.getElem?_cons_zero, List.getElem?_cons_succ]; rfl
          · exact fun _ _ _ h => h
          · exact Or.inr ⟨by rfl, rfl⟩
          try simp only [Act.put, List.setIfInBounds_toArray, List.set_cons_zero, List.set_cons_succ]
          refine wpAnyH_take (i := 7) (oi := ?_) (v := undef) ?_ (by kernel_rfl) (by kernel_rfl) (by kernel_rfl) ?_ ?_ (by assumption) ?_
          rotate_left 1
          · simp only [List.getElem?_toArray, List.getElem?_cons_zero, List.getElem?_cons_succ]; rfl
          · exact fun _ _ _ h => h
          · exact Or.inr ⟨by rfl, rfl⟩
          try simp only [Act.put, List.setIfInBounds_toArray, List.set_cons_zero, List.set_cons_succ]
          refine wpAnyH_take (i := 8) (oi := ?_) (v := undef) ?_ (by kernel_rfl) (by kernel_rfl) (by kernel_rfl) ?_ ?_ (by assumption) ?_
          rotate_left 1
          · simp only [List.getElem?_toArray, List.getElem?_cons_zero, List.getElem?_cons_succ]; rfl
          · exact fun _ _ _ h => h
          · exact Or.inr ⟨by rfl, rfl⟩
          try simp only [Act.put, List.setIfInBounds_toArray, List.set_cons_zero, List.set_cons_succ]
          refine wpAnyH_take (i := 9) (oi := ?_) (v := undef) ?_ (by kernel_rfl) (by kernel_rfl) (by kernel_rfl) ?_ ?_ (by assumption) ?_
          rotate_left 1
          · simp only [List.getElem?_toArray, List.getElem?_cons_zero, List.getElem?_cons_succ]; rfl
          · exact fun _ _ _ h => h
          · exact Or.inr ⟨by rfl, rfl⟩
          try simp only [Act.put, List.setIfInBounds_toArray, List.set_cons_zero, List.set_cons_succ]
          refine wpAnyH_take (i := 10) (oi := ?_) (v := undef) ?_ (by kernel_rfl) (by kernel_rfl) (by kernel_rfl) ?_ ?_ (by assumption) ?_
          rotate_left 1
          · simp only [List.getElem?_toArray, List.getElem?_cons_zero, List.getElem?_cons_succ]; rfl
          · exact fun _ _ _ h => h
          · exact Or.inr ⟨by rfl, rfl⟩
          try simp only [Act.put, List.setIfInBounds_toArray, List.set_cons_zero, List.set_cons_succ]
          refine wpAnyH_take (i := 11) (oi := ?_) (v := ?_) ?_ (by kernel_rfl) (by kernel_rfl) (by kernel_rfl) ?_ ?_ (by assumption) ?_
          rotate_left 2
          · simp only [List.getElem?_toArray, List.getElem?_cons_zero, List.getElem?_cons_succ]; rfl
          · exact fun _ _ _ h => h
          · refine Or.inl ⟨by rfl, ?_⟩; intro w hSw; (try dsimp only at hSw); go_simp; try with_reducible rfl
          try simp only [Act.put, List.setIfInBounds_toArray, List.set_cons_zero, List.set_cons_succ]
          refine wpAnyH_take (i := 12) (oi := ?_) (v := ?_) ?_ (by kernel_rfl) (by kernel_rfl) (by kernel_rfl) ?_ ?_ (by assumption) ?_
          rotate_left 2
          · simp only [List.getElem?_toArray, List.getElem?_cons_zero, List.getElem?_cons_succ]; rfl
          · exact fun _ _ _ h => h
          · refine Or.inl ⟨by rfl, ?_⟩; intro w hSw; (try dsimp only at hSw); go_simp; try with_reducible rfl
          try simp only [Act.put, List.setIfInBounds_toArray, List.set_cons_zero, List.set_cons_succ]
          refine wpAnyH_take (i := 13) (oi := ?_) (v := undef) ?_ (by kernel_rfl) (by kernel_rfl) (by kernel_rfl) ?_ ?_ (by assumption) ?_
          rotate_left 1
          · simp only [List.getElem?_toArray, List.getElem?_cons_zero, List.getElem?_cons_succ]; rfl
          · exact fun _ _ _ h => h
          · exact Or.inr ⟨by rfl, rfl⟩
          try simp only [Act.put, List.setIfInBounds_toArray, List.set_cons_zero, List.set_cons_succ]
          refine wpAnyH_take (i := 14) (oi := ?_) (v := undef) ?_ (by kernel_rfl) (by kernel_rfl) (by kernel_rfl) ?_ ?_ (by assumption) ?_
          rotate_left 1
          · simp only [List.getElem?_toArray, List.getElem?_cons_zero, List.getElem?_cons_succ]; rfl
          · exact fun _ _ _ h => h
          · exact Or.inr ⟨by rfl, rfl⟩
          try simp only [Act.put, List.setIfInBounds_toArray, List.set_cons_zero, List.set_cons_succ]
          refine wpAnyH_take (i := 15) (oi := ?_) (v := undef) ?_ (by kernel_rfl) (by kernel_rfl) (by kernel_rfl) ?_ ?_ (by assumption) ?_
          rotate_left 1
          · simp only [List.getElem?_toArray, List.getElem?_cons_zero, List.getElem?_cons_succ]; rfl
          · exact fun _ _ _ h => h
          · exact Or.inr ⟨by rfl, rfl⟩
          try simp only [Act.put, List.setIfInBounds_toArray, List.set_cons_zero, List.set_cons_succ]
          refine wpAnyH_take (i := 16) (oi := ?_) (v := undef) ?_ (by kernel_rfl) (by kernel_rfl) (by kernel_rfl) ?_ ?_ (by assumption) ?_
          rotate_left 1
          · simp only [List.getElem?_toArray, List.getElem?_cons_zero, List.getElem?_cons_succ]; rfl
          · exact fun _ _ _ h => h
          · exact Or.inr ⟨by rfl, rfl⟩
          try simp only [Act.put, List.setIfInBounds_toArray, List.set_cons_zero, List.set_cons_succ]
          refine wpAnyH_take (i := 17) (oi := ?_) (v := ?_) ?_ (by kernel_rfl) (by kernel_rfl) (by kernel_rfl) ?_ ?_ (by assumption) ?_
          rotate_left 2
          · simp only [List.getElem?_toArray, List.getElem?_cons_zero, List.getElem?_cons_succ]; rfl
          · exact fun _ _ _ h => h
          · refine Or.inl ⟨by rfl, ?_⟩; intro w hSw; (try dsimp only at hSw); go_simp; try with_reducible rfl
          try simp only [Act.put, List.setIfInBounds_toArray, List.set_cons_zero, List.set_cons_succ]
          refine wpAnyH_done (by kernel_rfl) ?_ _
          go_wp2_with fail
          go_meet
          exact ⟨false, rfl, by simp, st4⟩
      case rest =>
        obtain ⟨bb, rfl, hbb, st2⟩ := hcut
        cases bb
        · go_wp2_with fail
          go_roundw
          case rel => exact ⟨k + 1, xs, A', c', p' + 1, by omega, by go_num, by omega, st2⟩
          case measure => simp [intOf]; omega
        · have h4 := hbb rfl
          clear hbb s0 s1 s2 hn
          obtain ⟨wp, rfl⟩ : ∃ wp : World, wp = wc := ⟨_, rfl⟩
          have hn := st2.six.cell hlt
          obtain ⟨y, hy⟩ : ∃ y, y = sixNames[k]'(by exact hlt) := ⟨_, rfl⟩
          have hy6 : y.size ≤ 6 := by rw [hy]; exact (sixNames_size _ (List.getElem_mem _)).2
          rw [← hy] at hn
          clear hy
          obtain ⟨s0, s1, s2⟩ := st2.inn.box.cells
          have hx4 := st2.inn.lens.1
          have hown := Lib.hid (own_move (w' := (wp.alloc (.cells #[.string y] 9)).drew) (st2.inn.own.alloc (.cells #[.string y] 9)) (fun _ _ _ => rfl))
          have hcell := Lib.hid (show (wp.alloc (.cells #[.string y] 9)).drew.cell? ⟨wp.heap.size, 0, none⟩ = some (.string y) from cell_new1 wp _ _)
          have hbase : wi.heap.size ≤ wp.heap.size := st2.inn.grown.size
          have e0 := cell_al s1 (.cells #[.string y] 9)
          have e1 := cell_al hn (.cells #[.string y] 9)
          clear st s2
          go_wp2_with fail
          go_region_law ((refine step_append_name _ rfl (.tmp 39) (.tmp 44) rfl wi.heap.size A' c' xs (by simp [Act.eval]) hown.out ⟨wp.heap.size, 0, none⟩ 1 y (by simp [Act.eval]) hcell.out (by omega) (by omega) (by simp; omega) ?_; intro A3 c3 w3 hap; obtain ⟨k0, k1, k2⟩ := (st2.inn.boxAfter hap).cells; have kf := (st2.inn.boxAfter hap).free 1))
          all_goals
            go_wp2_with fail
            go_roundw
            case rel => exact ⟨k + 1, xs ++ [y], A3, c3, p' + 1, by omega, by go_num, by omega, by have := st2.pushed hap h4 hy6; simpa using this⟩
            case measure => simp [intOf]; omega
    · obtain rfl : k = 6 := by omega
      go_wp2_with fail
      (with_reducible refine (pick_any B g A c zs p' _ _ st.inn.rd (by omega)).mono ?_)
      rintro e w4 ⟨v4, rfl, hv40, hv41, hr4, hg4⟩
      have st4 := st.after hr4 hg4
      clear st hr4 hg4 hv41
      obtain ⟨s0, s1, s2⟩ := st4.inn.box.cells
      have sf := fun i => st4.inn.box.free i
      have hgg := st4.inn.grown
      have hrb : StepBox w4 w.heap.size (.string ⟨#[]⟩) (.slice none 0 0) (.bool false) := (hgg.block w.heap.size (by omega) (fun e => by injection e with e; omega)).trans hres
      obtain ⟨r0, r1, r2⟩ := hrb.cells
      have rf := fun i => hrb.free i
      have hbl := st4.inn.box.lt
      have hrl := hrb.lt
      by_cases hv0 : v4 = 0
      · subst hv0
        have hfb := fin_box hrb (by omega) (.slice (some ⟨w4.heap.size, 0, none⟩) 2 2) (.string nm) (.slice (some ⟨w4.heap.size, 0, none⟩) 2 2) (.bool (decide (0 < v))) (.cells #[.string ⟨#[98]⟩, .string ⟨#[97]⟩] 9) (sb := sb)
        have hfl := fin_below (show w.heap.size ≤ sb by omega) (show w.heap.size ≤ w4.heap.size by omega) (.slice (some ⟨w4.heap.size, 0, none⟩) 2 2) (.string nm) (.slice (some ⟨w4.heap.size, 0, none⟩) 2 2) (.bool (decide (0 < v))) (.cells #[.string ⟨#[98]⟩, .string ⟨#[97]⟩] 9)
        have hfo := Lib.hid (fin_own (sb := sb) (n := 2) (show w.heap.size ≤ w4.heap.size by omega) (.slice (some ⟨w4.heap.size, 0, none⟩) 2 2) (.string nm) (.slice (some ⟨w4.heap.size, 0, none⟩) 2 2) (.bool (decide (0 < v))) [⟨#[98]⟩, ⟨#[97]⟩] rfl (by simp) (by intro y hy; simp at hy; rcases hy with rfl | rfl <;> decide))
        obtain ⟨q0, q1, q2⟩ := hfb.cells
        have hrd := Lib.hid (st4.inn.rd.below hfl hgl)
        have hgr := Lib.hid (grown_low (grown_trans hwg hgg) (Nat.le_refl _) hfl)
        clear hfb hfl
        go_wp2_with fail
        refine bodyPost_ret (v := .agg #[.string nm, .slice (some ⟨w4.heap.size, 0, none⟩) 2 2, .bool (decide (0 < v))]) (by simp [results, Try.results43, go_sem, q0, q1, q2]) rfl ?_
        exact ⟨nm, _, 2, [⟨#[98]⟩, ⟨#[97]⟩], _, p' + 1, rfl, hn6, hfo.out, by simp, by intro y hy; simp at hy; rcases hy with rfl | rfl <;> decide, by omega, hrd.out, hgr.out⟩
      · have hv0' : (v4 == 0) = false := by simpa using hv0
        by_cases hv1 : v4 = 1
        · subst hv1
          have hfb := fin_box hrb (by omega) (.slice (some ⟨w4.heap.size, 0, none⟩) 5 5) (.string nm) (.slice (some ⟨w4.heap.size, 0, none⟩) 5 5) (.bool (decide (0 < v))) (.cells #[.string ⟨#[97]⟩, .string ⟨#[98]⟩, .string ⟨#[99]⟩, .string ⟨#[100]⟩, .string ⟨#[101]⟩] 9) (sb := sb)
          have hfl := fin_below (show w.heap.size ≤ sb by omega) (show w.heap.size ≤ w4.heap.size by omega) (.slice (some ⟨w4.heap.size, 0, none⟩) 5 5) (.string nm) (.slice (some ⟨w4.heap.size, 0, none⟩) 5 5) (.bool (decide (0 < v))) (.cells #[.string ⟨#[97]⟩, .string ⟨#[98]⟩, .string ⟨#[99]⟩, .string ⟨#[100]⟩, .string ⟨#[101]⟩] 9)
          have hfo := Lib.hid (fin_own (sb := sb) (n := 5) (show w.heap.size ≤ w4.heap.size by omega) (.slice (some ⟨w4.heap.size, 0, none⟩) 5 5) (.string nm) (.slice (some ⟨w4.heap.size, 0, none⟩) 5 5) (.bool (decide (0 < v))) [⟨#[97]⟩, ⟨#[98]⟩, ⟨#[99]⟩, ⟨#[100]⟩, ⟨#[101]⟩] rfl (by simp) (by intro y hy; simp at hy; rcases hy with rfl | rfl | rfl | rfl | rfl <;> decide))
          obtain ⟨q0, q1, q2⟩ := hfb.cells
          have hrd := Lib.hid (st4.inn.rd.below hfl hgl)
          have hgr := Lib.hid (grown_low (grown_trans hwg hgg) (Nat.le_refl _) hfl)
          clear hfb hfl
          go_wp2_with fail
          refine bodyPost_ret (v := .agg #[.string nm, .slice (some ⟨w4.heap.size, 0, none⟩) 5 5, .bool (decide (0 < v))]) (by simp [results, Try.results43, go_sem, q0, q1, q2]) rfl ?_
          exact ⟨nm, _, 5, [⟨#[97]⟩, ⟨#[98]⟩, ⟨#[99]⟩, ⟨#[100]⟩, ⟨#[101]⟩], _, p' + 1, rfl, hn6, hfo.out, by simp, by intro y hy; simp at hy; rcases hy with rfl | rfl | rfl | rfl | rfl <;> decide, by omega, hrd.out, hgr.out⟩
        · have hv1' : (v4 == 1) = false := by simpa using hv1
          by_cases hv2 : v4 = 2
          · subst hv2
            have hfb := fin_box hrb (by omega) (.slice (some ⟨w4.heap.size, 0, none⟩) 1 1) (.string nm) (.slice (some ⟨w4.heap.size, 0, none⟩) 1 1) (.bool (decide (0 < v))) (.cells #[.string nm] 9) (sb := sb)
            have hfl := fin_below (show w.heap.size ≤ sb by omega) (show w.heap.size ≤ w4.heap.size by omega) (.slice (some ⟨w4.heap.size, 0, none⟩) 1 1) (.string nm) (.slice (some ⟨w4.heap.size, 0, none⟩) 1 1) (.bool (decide (0 < v))) (.cells #[.string nm] 9)
            have hfo := Lib.hid (fin_own (sb := sb) (n := 1) (show w.heap.size ≤ w4.heap.size by omega) (.slice (some ⟨w4.heap.size, 0, none⟩) 1 1) (.string nm) (.slice (some ⟨w4.heap.size, 0, none⟩) 1 1) (.bool (decide (0 < v))) [nm] rfl (by simp) (by intro y hy; simp at hy; subst hy; exact hn6))
            obtain ⟨q0, q1, q2⟩ := hfb.cells
            have hrd := Lib.hid (st4.inn.rd.below hfl hgl)
            have hgr := Lib.hid (grown_low (grown_trans hwg hgg) (Nat.le_refl _) hfl)
            clear hfb hfl
            go_wp2_with fail
            refine bodyPost_ret (v := .agg #[.string nm, .slice (some ⟨w4.heap.size, 0, none⟩) 1 1, .bool (decide (0 < v))]) (by simp [results, Try.results43, go_sem, q0, q1, q2]) rfl ?_
            exact ⟨nm, _, 1, [nm], _, p' + 1, rfl, hn6, hfo.out, by simp, by intro y hy; simp at hy; subst hy; exact hn6, by omega, hrd.out, hgr.out⟩
          · have hv2' : (v4 == 2) = false := by simpa using hv2
            have hb3 := box_set3 (.string nm) (.slice A' xs.length c') (.bool (decide (0 < v))) hrb
            have hbl3 := set3_below (W := w4) (.string nm) (.slice A' xs.length c') (.bool (decide (0 < v))) (Nat.le_refl w.heap.size)
            obtain ⟨q0, q1, q2⟩ := hb3.cells
            have hrd := Lib.hid (st4.inn.rd.below hbl3 hgl)
            have hgr := Lib.hid (grown_low (grown_trans hwg hgg) (Nat.le_refl _) hbl3)
            have hfo := Lib.hid ((((st4.inn.own.setLow (a := ⟨w.heap.size, 0, none⟩) (show w.heap.size < wi.heap.size by omega) (.string nm)).setLow (a := ⟨w.heap.size, 1, none⟩) (show w.heap.size < wi.heap.size by omega) (.slice A' xs.length c')).setLow (a := ⟨w.heap.size, 2, none⟩) (show w.heap.size < wi.heap.size by omega) (.bool (decide (0 < v)))).base_ (base' := w.heap.size) (by omega))
            have hls := Lib.hid st4.inn.lens
            clear hb3 hbl3
            go_wp2_with fail
            refine bodyPost_ret (v := .agg #[.string nm, .slice A' xs.length c', .bool (decide (0 < v))]) (by simp [results, Try.results43, go_sem, q0, q1, q2]) rfl ?_
            exact ⟨nm, A', c', xs, _, p' + 1, rfl, hn6, hfo.out, by have := hls.out.1; omega, hls.out.2, by omega, hrd.out, hgr.out⟩
end Go.Proofs.Ytcdccdgegmnhnaa
