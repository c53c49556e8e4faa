/- Contract of the draw of a flow: l91Flow. Condition: the place is small. -/
import Derived.Test.YtdjgpoenlmhonaaDrawLists
import Derived.Test.YtdjgpoenlmhonaaStepRows
import Derived.Deep.RegionWith
import Derived.Deep.RegionLaw
import Derived.Deep.RegionHeld3
import Derived.Deep.DeepCutAuto
namespace Go.Proofs.Ytdjgpoenlmhonaa
set_option linter.unusedVariables false
set_option maxRecDepth 100000
open Go.RowKit

/-- A block of the call's own that holds two or three cells, or six names. -/
def FlowBox (w : World) (b : Nat) (x y : Value) : Prop := w.heap[b]? = some (.cells #[x, y] 25 (0, 0))
def StepBox (w : World) (b : Nat) (x y z : Value) : Prop := w.heap[b]? = some (.cells #[x, y, z] 32 (0, 0))
def sixNames : List ByteArray := [⟨#[97]⟩, ⟨#[98]⟩, ⟨#[99]⟩, ⟨#[100]⟩, ⟨#[101]⟩, ⟨#[102]⟩]
def SixBox (w : World) (b : Nat) : Prop := w.heap[b]? = some (.cells (sixNames.map Value.string).toArray 9 (0, 0))
theorem sixNames_size : ∀ x ∈ sixNames, 1 ≤ x.size ∧ x.size ≤ 6 := by
  intro x hx
  simp only [sixNames, List.mem_cons, List.not_mem_nil, or_false] at hx
  rcases hx with rfl | rfl | rfl | rfl | rfl | rfl <;> decide
section
variable {w w' : World} {b g : Nat} {x y z : Value}
theorem block_lt {o : Obj} (h : w.heap[b]? = some o) : b < w.heap.size := (Array.getElem?_eq_some_iff.1 h).1
theorem FlowBox.lt (h : FlowBox w b x y) : b < w.heap.size := block_lt h
theorem StepBox.lt (h : StepBox w b x y z) : b < w.heap.size := block_lt h
theorem SixBox.lt (h : SixBox w b) : b < w.heap.size := block_lt h
theorem FlowBox.cells (h : FlowBox w b x y) : w.cell? ⟨b, 0, none⟩ = some x ∧ w.cell? ⟨b, 1, none⟩ = some y :=
  ⟨by rw [cell_of_row w b 0 _ _ (0, 0) h]; rfl, by rw [cell_of_row w b 1 _ _ (0, 0) h]; rfl⟩
theorem StepBox.cells (h : StepBox w b x y z) : w.cell? ⟨b, 0, none⟩ = some x ∧ w.cell? ⟨b, 1, none⟩ = some y ∧ w.cell? ⟨b, 2, none⟩ = some z :=
  ⟨by rw [cell_of_row w b 0 _ _ (0, 0) h]; rfl, by rw [cell_of_row w b 1 _ _ (0, 0) h]; rfl, by rw [cell_of_row w b 2 _ _ (0, 0) h]; rfl⟩
theorem FlowBox.free (h : FlowBox w b x y) (i : Nat) : w.frozen? ⟨b, i, none⟩ = false := by unfold FlowBox at h; simp [World.frozen?, h]
theorem StepBox.free (h : StepBox w b x y z) (i : Nat) : w.frozen? ⟨b, i, none⟩ = false := by unfold StepBox at h; simp [World.frozen?, h]
theorem SixBox.cell (h : SixBox w b) {k : Nat} (hk : k < 6) : w.cell? ⟨b, k, none⟩ = some (.string (sixNames[k]'hk)) := by
  rw [cell_of_row w b k _ _ (0, 0) h]
  have hl : k < sixNames.length := hk
  rw [List.getElem?_toArray, List.getElem?_map, List.getElem?_eq_getElem hl]
  rfl
theorem FlowBox.new (w : World) (x y : Value) : FlowBox (w.alloc (.cells #[x, y] 25)) w.heap.size x y := heap_alloc_new w _
theorem StepBox.new (w : World) (x y z : Value) : StepBox (w.alloc (.cells #[x, y, z] 32)) w.heap.size x y z := heap_alloc_new w _
theorem FlowBox.set0 (h : FlowBox w b x y) (u : Value) : FlowBox (w.setCell ⟨b, 0, none⟩ u) b u y := by unfold FlowBox at h ⊢; simp [World.setCell, Array.getElem?_modify, h]
theorem FlowBox.set1 (h : FlowBox w b x y) (u : Value) : FlowBox (w.setCell ⟨b, 1, none⟩ u) b x u := by unfold FlowBox at h ⊢; simp [World.setCell, Array.getElem?_modify, h]
theorem StepBox.set1 (h : StepBox w b x y z) (u : Value) : StepBox (w.setCell ⟨b, 1, none⟩ u) b x u z := by unfold StepBox at h ⊢; simp [World.setCell, Array.getElem?_modify, h]
end

/-- What the draw of a flow knows between its statements: g the reader's block, lo the first one of the steps, fb the flow's, nb the names'. -/
structure FlowState (w : World) (B g : Nat) (A : Option Addr) (c : Nat) (zs : List Int) (fb : Nat) (wr : World) (p : Nat) (ver : Int) (SA : Option Addr) (sc : Nat) (ss : List St) : Prop where
  rd : Rdr wr B g A c zs p
  box : FlowBox wr fb (.int .i64 ver) (.slice SA ss.length sc)
  six : SixBox wr (fb + 1)
  res : FlowBox wr w.heap.size (.int .i64 0) (.slice none 0 0)
  own : OwnSteps wr (w.heap.size + 1) (fb + 2) SA sc ss
  rowNe : ∀ q, SA = some q → q.block ≠ fb ∧ q.block ≠ fb + 1
  grown : w.grownBy wr (some g)
  gl : g < w.heap.size
  fl : w.heap.size < fb
  small : ∀ s ∈ ss, (1 ≤ s.name.size ∧ s.name.size ≤ 6) ∧ s.after.length ≤ 4 ∧ ∀ x ∈ s.after, x.size ≤ 6

theorem FlowState.after {w wr w' : World} {B g c fb p p' sc : Nat} {A SA : Option Addr} {zs : List Int} {ver : Int} {ss : List St} (st : FlowState w B g A c zs fb wr p ver SA sc ss)
    (hr : Rdr w' B g A c zs p') (hg : wr.grownBy w' (some g)) : FlowState w B g A c zs fb w' p' ver SA sc ss where
  rd := hr
  box := (hg.block fb st.box.lt (fun e => by injection e with e; have := st.gl; have := st.fl; omega)).trans st.box
  six := (hg.block (fb + 1) st.six.lt (fun e => by injection e with e; have := st.gl; have := st.fl; omega)).trans st.six
  res := (hg.block w.heap.size st.res.lt (fun e => by injection e with e; have := st.gl; omega)).trans st.res
  own := st.own.grown hg (by have := st.gl; omega) (by have := st.gl; have := st.fl; omega)
  rowNe := st.rowNe
  grown := grown_trans st.grown hg
  gl := st.gl
  fl := st.fl
  small := st.small
theorem FlowState.below_ {w wr w' : World} {B g c fb p sc : Nat} {A SA : Option Addr} {zs : List Int} {ver : Int} {ss : List St} (st : FlowState w B g A c zs fb wr p ver SA sc ss)
    (hb : Below wr.heap.size wr w') : FlowState w B g A c zs fb w' p ver SA sc ss :=
  st.after (st.rd.below hb st.rd.lt) ⟨hb.os, hb.tape, hb.output, hb.size, fun k hk _ => hb.block k hk⟩

theorem FlowState.pushed {w wr w' : World} {B g c fb p sc sc' : Nat} {A SA SA' : Option Addr} {zs : List Int} {ver : Int} {ss : List St} {t : St} {o : Obj} (st : FlowState w B g A c zs fb wr p ver SA sc ss)
    (ha : StepAppended (wr.alloc o) w' (w.heap.size + 1) (fb + 2) SA SA' sc' ss t) (ht : (1 ≤ t.name.size ∧ t.name.size ≤ 6) ∧ t.after.length ≤ 4 ∧ ∀ x ∈ t.after, x.size ≤ 6) :
    FlowState w B g A c zs fb (w'.setCell ⟨fb, 1, none⟩ (.slice SA' (ss.length + 1) sc')) p ver SA' sc' (ss ++ [t]) := by
  have hfl := st.fl
  have hgl := st.gl
  have hbl := st.box.lt
  have hsl := st.six.lt
  have hrl := st.res.lt
  have hrow : ∀ k, k < wr.heap.size → (∀ q, SA = some q → q.block ≠ k) → w'.heap[k]? = wr.heap[k]? := by
    intro k hk hne
    refine (ha.grown.block k (by simp; omega) ?_).trans (Below.heap_alloc _ _ _ hk)
    intro e
    cases SA with
    | none => cases e
    | some q => injection e with e; exact hne q rfl e.symm
  have hlow : ∀ q, SA = some q → w.heap.size + 1 ≤ q.block := fun q e => (st.own.blocks q e).1
  have hset : ∀ k, k ≠ fb → (w'.setCell ⟨fb, 1, none⟩ (.slice SA' (ss.length + 1) sc')).heap[k]? = w'.heap[k]? := fun k hk => Below.heap_setCell _ _ _ _ hk
  have hne' : ∀ q, SA' = some q → q.block ≠ fb ∧ q.block ≠ fb + 1 := by
    intro q e
    subst e
    rcases ha.at_ with hat | hat
    · cases SA with
      | none => cases hat
      | some q' =>
        have hat' : some q.block = some q'.block := hat
        injection hat' with hat'
        rw [hat']
        exact st.rowNe q' rfl
    · have hat' : some q.block = some (wr.alloc o).heap.size := hat
      injection hat' with hat'
      simp at hat'
      omega
  have hlen : (ss ++ [t]).length = ss.length + 1 := by simp
  refine ⟨?_, ?_, ?_, ?_, ?_, hne', ?_, hgl, hfl, ?_⟩
  · refine st.rd.keep fun k hk => ?_
    rw [hset k (by omega)]
    exact hrow k (by omega) fun q e => by have := hlow q e; omega
  · rw [hlen]
    exact FlowBox.set1 ((hrow fb hbl fun q e => (st.rowNe q e).1).trans st.box) _
  · exact (hset (fb + 1) (by omega)).trans ((hrow (fb + 1) hsl fun q e => (st.rowNe q e).2).trans st.six)
  · exact (hset w.heap.size (by omega)).trans ((hrow w.heap.size hrl fun q e => by have := hlow q e; omega).trans st.res)
  · exact ha.own.set _ (by show fb < fb + 2; omega) fun q e => (hne' q e).1
  · refine ⟨ha.grown.os.trans st.grown.os, ha.grown.tape.trans st.grown.tape, ha.grown.output.trans st.grown.output, ?_, fun k hk hne => ?_⟩
    · have h1 := st.grown.size
      have h2 := ha.grown.size
      simp at h2
      simp [World.setCell]
      omega
    · rw [hset k (by omega), hrow k (by have := st.grown.size; omega) fun q e => by have := hlow q e; omega]
      exact st.grown.block k hk hne
  · intro s hs
    rcases List.mem_append.1 hs with hs | hs
    · exact st.small s hs
    · simp at hs; subst hs; exact ht

theorem FlowState.boxAfter {w wr w' : World} {B g c fb p sc sc' : Nat} {A SA SA' : Option Addr} {zs : List Int} {ver : Int} {ss : List St} {t : St} {o : Obj} (st : FlowState w B g A c zs fb wr p ver SA sc ss)
    (ha : StepAppended (wr.alloc o) w' (w.heap.size + 1) (fb + 2) SA SA' sc' ss t) : FlowBox w' fb (.int .i64 ver) (.slice SA ss.length sc) := by
  have hbl := st.box.lt
  refine (ha.grown.block fb (by simp; omega) ?_).trans ((Below.heap_alloc _ _ _ hbl).trans st.box)
  intro e
  cases SA with
  | none => cases e
  | some q => injection e with e; exact (st.rowNe q rfl).1 e.symm
theorem step_new_cells (w : World) (nm : ByteArray) (A' : Option Addr) (n c' : Nat) (u : Bool) :
    (w.alloc (.cells #[.string nm, .slice A' n c', .bool u] 32)).cell? ((⟨w.heap.size, 0, none⟩ : Addr).add 0) = some (.string nm) ∧
    (w.alloc (.cells #[.string nm, .slice A' n c', .bool u] 32)).cell? ((⟨w.heap.size, 0, none⟩ : Addr).add 1) = some (.slice A' n c') ∧
    (w.alloc (.cells #[.string nm, .slice A' n c', .bool u] 32)).cell? ((⟨w.heap.size, 0, none⟩ : Addr).add 2) = some (.bool u) := by
  have h := Cell3.new w (.string nm) (.slice A' n c') (.bool u) 32
  exact ⟨h.c0, h.c1, h.c2⟩

/-- What the inner loop knows: the flow as it was at wi, and a new step. -/
structure InnerState (B g : Nat) (A : Option Addr) (c : Nat) (zs : List Int) (wi wr : World) (p sb : Nat) (nm : ByteArray) (u : Bool) (A' : Option Addr) (c' : Nat) (xs : List ByteArray) : Prop where
  rd : Rdr wr B g A c zs p
  grown : wi.grownBy wr (some g)
  box : StepBox wr sb (.string nm) (.slice A' xs.length c') (.bool u)
  sl : wi.heap.size ≤ sb
  own : OwnStrs wr wi.heap.size A' c' xs
  ne : ∀ q, A' = some q → q.block ≠ sb
  gl : g < wi.heap.size
  lens : xs.length ≤ 4 ∧ ∀ x ∈ xs, x.size ≤ 6
theorem InnerState.after {B g c p p' sb c' : Nat} {A A' : Option Addr} {zs : List Int} {wi wr w' : World} {nm : ByteArray} {u : Bool} {xs : List ByteArray} (st : InnerState B g A c zs wi wr p sb nm u A' c' xs)
    (hr : Rdr w' B g A c zs p') (hg : wr.grownBy w' (some g)) : InnerState B g A c zs wi w' p' sb nm u A' c' xs where
  rd := hr
  grown := grown_trans st.grown hg
  box := (hg.block sb st.box.lt (fun e => by injection e with e; have := st.gl; have := st.sl; omega)).trans st.box
  sl := st.sl
  own := own_grown st.own hg st.gl
  ne := st.ne
  gl := st.gl
  lens := st.lens
theorem InnerState.pushed {B g c p sb c' c'' : Nat} {A A' A'' : Option Addr} {zs : List Int} {wi wr w' : World} {nm nm2 : ByteArray} {u : Bool} {xs : List ByteArray} {o : Obj} (st : InnerState B g A c zs wi wr p sb nm u A' c' xs)
    (ha : Appended (wr.drew.alloc o) w' wi.heap.size A' A'' c'' xs nm2) (h4 : xs.length < 4) (hn : nm2.size ≤ 6) :
    InnerState B g A c zs wi (w'.setCell ⟨sb, 1, none⟩ (.slice A'' (xs.length + 1) c'')) p sb nm u A'' c'' (xs ++ [nm2]) := by
  have hgl := st.gl
  have hsl := st.sl
  have hbl := st.box.lt
  have hgs := st.grown.size
  have hlow : Below wi.heap.size wr w' := (((Below.refl _ _).alloc hgs o).drew).trans ⟨ha.low.os, ha.low.tape, ha.low.output, by have := ha.low.size; exact this, fun k hk => ha.low.block k hk⟩
  have hlow2 : Below wi.heap.size wr (w'.setCell ⟨sb, 1, none⟩ (.slice A'' (xs.length + 1) c'')) := hlow.setCell hsl _
  have hsb : w'.heap[sb]? = wr.heap[sb]? := by
    refine (ha.grown.block sb (by show sb < (wr.alloc o).heap.size; simp; omega) ?_).trans (Below.heap_alloc wr o sb hbl)
    intro e
    cases A' with
    | none => cases e
    | some q => injection e with e; exact st.ne q rfl e.symm
  have hne' : ∀ q, A'' = some q → q.block ≠ sb := by
    intro q e
    subst e
    rcases ha.at_ with hat | hat
    · cases A' with
      | none => cases hat
      | some q' =>
        have hat' : some q.block = some q'.block := hat
        injection hat' with hat'
        rw [hat']
        exact st.ne q' rfl
    · have hat' : some q.block = some (wr.alloc o).heap.size := hat
      injection hat' with hat'
      simp at hat'
      omega
  have hlen : (xs ++ [nm2]).length = xs.length + 1 := by simp
  refine ⟨st.rd.below hlow2 hgl, grown_low st.grown (Nat.le_refl _) hlow2, ?_, hsl, ?_, hne', hgl, ?_⟩
  · rw [hlen]; exact StepBox.set1 (hsb.trans st.box) _
  · have ho := ha.own
    refine ⟨row_move ho.1 fun k e => Below.heap_setCell _ _ _ _ fun e2 => ?_, ho.2⟩
    rw [ownBlock_slice] at e
    cases A'' with
    | none => cases e
    | some q => injection e with e; exact hne' q rfl (e.trans e2)
  · refine ⟨by rw [hlen]; omega, fun x hx => ?_⟩
    rcases List.mem_append.1 hx with hx | hx
    · exact st.lens.2 x hx
    · simp at hx; subst hx; exact hn

theorem PickFix.keep {zs : List Int} {p : Nat} {n v : Int} (hf : PickFix zs p n v) {B g : Nat} {A : Option Addr} {c : Nat} {W : World} (hr : Rdr W B g A c zs p) (hp : p ≤ 1000000) {S : World → Prop} (hS : ∀ W', W.grownBy W' (some g) → S W') :
    Calls Try.prog 11 #[.pointer (some ⟨g, 0, none⟩), .int .i64 n] W fun e w' => e = .returned (.int .i64 v) ∧ Rdr w' B g A c zs (p + 1) ∧ W.grownBy w' (some g) ∧ S w' ∧
      (∀ b o, b < W.heap.size → ¬ b = g → w'.cell? ⟨b, o, none⟩ = W.cell? ⟨b, o, none⟩) ∧ (∀ b o, b < W.heap.size → ¬ b = g → w'.frozen? ⟨b, o, none⟩ = W.frozen? ⟨b, o, none⟩) ∧ W.heap.size ≤ w'.heap.size :=
  (hf B g A c W hr hp).mono fun _ _ ⟨h1, h2, h3⟩ => ⟨h1, h2, h3, hS _ h3,
    fun b o hb hne => World.cell?_of_block (w := W) (a := ⟨b, o, none⟩) (h3.block b hb (fun e => hne (by injection e))),
    fun b o hb hne => World.frozen?_of_block (w := W) (a := ⟨b, o, none⟩) (h3.block b hb (fun e => hne (by injection e))), h3.size⟩

theorem cell_set3 {w : World} {b : Nat} {x y z u : Value} (nb k : Nat) (hne : nb ≠ b) (h : w.cell? ⟨nb, k, none⟩ = some u) :
    (((w.setCell ⟨b, 0, none⟩ x).setCell ⟨b, 1, none⟩ y).setCell ⟨b, 2, none⟩ z).cell? ⟨nb, k, none⟩ = some u := by
  have hn : ∀ i, (⟨b, i, none⟩ : Addr) ≠ ⟨nb, k, none⟩ := fun i e => hne (by injection e with e; exact e.symm)
  rw [World.cell?_setCell_other _ _ _ _ (hn 2), World.cell?_setCell_other _ _ _ _ (hn 1), World.cell?_setCell_other _ _ _ _ (hn 0)]
  exact h

theorem cell_al {w : World} {a : Addr} {u : Value} (h : w.cell? a = some u) (o : Obj) : (w.alloc o).cell? a = some u := (World.cell?_alloc_lt w o a (World.block_lt_of_cell? w _ h)).trans h
theorem cell_dr {w : World} {a : Addr} {u : Value} (h : w.cell? a = some u) : w.drew.cell? a = some u := h

theorem al2 (w : World) (o o' : Obj) : ((w.alloc o).alloc o').heap[w.heap.size]? = (w.alloc o).heap[w.heap.size]? := Below.heap_alloc _ _ _ (by simp)
theorem al2' (w : World) (o o' : Obj) : ((w.alloc o).alloc o').heap[w.heap.size + 1]? = some o' := by
  have := heap_alloc_new (w.alloc o) o'
  simpa using this
theorem box_set3 {W : World} {b : Nat} {x y z : Value} (x' y' z' : Value) (h : StepBox W b x y z) : StepBox (((W.setCell ⟨b, 0, none⟩ x').setCell ⟨b, 1, none⟩ y').setCell ⟨b, 2, none⟩ z') b x' y' z' := by
  unfold StepBox at h ⊢
  simp [World.setCell, Array.getElem?_modify, h]
theorem set3_other {W : World} {b k : Nat} (x' y' z' : Value) (h : k ≠ b) : (((W.setCell ⟨b, 0, none⟩ x').setCell ⟨b, 1, none⟩ y').setCell ⟨b, 2, none⟩ z').heap[k]? = W.heap[k]? :=
  (Below.heap_setCell _ _ _ _ h).trans ((Below.heap_setCell _ _ _ _ h).trans (Below.heap_setCell _ _ _ _ h))
theorem set3_below {W : World} {b B : Nat} (x' y' z' : Value) (h : B ≤ b) : Below B W (((W.setCell ⟨b, 0, none⟩ x').setCell ⟨b, 1, none⟩ y').setCell ⟨b, 2, none⟩ z') :=
  (((Below.refl _ _).setCell h _).setCell h _).setCell h _
theorem grown_mid {wi W w7 X : World} {g : Nat} (h1 : Below wi.heap.size wi W) (h2 : W.grownBy w7 (some g)) (h3 : Below wi.heap.size w7 X) : wi.grownBy X (some g) :=
  ⟨h3.os.trans (h2.os.trans h1.os), h3.tape.trans (h2.tape.trans h1.tape), h3.output.trans (h2.output.trans h1.output), Nat.le_trans h1.size (Nat.le_trans h2.size h3.size),
    fun k hk hne => (h3.block k hk).trans ((h2.block k (by have := h1.size; omega) hne).trans (h1.block k hk))⟩
theorem InnerState.mk0 {B g c p : Nat} {A : Option Addr} {zs : List Int} {wi X : World} {nm : ByteArray} {u : Bool} (hr : Rdr X B g A c zs p) (hg : wi.grownBy X (some g)) (hgl : g < wi.heap.size) (sb ab : Nat)
    (hb : StepBox X sb (.string nm) (.slice (some ⟨ab, 0, none⟩) 0 0) (.bool u)) (ha : X.heap[ab]? = some (.cells #[] 9 (0, 0))) (h1 : wi.heap.size ≤ sb) (h2 : wi.heap.size ≤ ab) (hne : ab ≠ sb) :
    InnerState B g A c zs wi X p sb nm u (some ⟨ab, 0, none⟩) 0 [] where
  rd := hr
  grown := hg
  box := hb
  sl := h1
  own := ⟨⟨by simp, .inr ⟨ab, 0, #[], rfl, h2, ha, by simp, by simp [maxLen], by simp, by simp⟩⟩, fun x hx => by cases hx⟩
  ne := fun q e => by injection e with e; subst e; exact hne
  gl := hgl
  lens := ⟨by simp, fun x hx => by cases hx⟩

theorem InnerState.boxAfter {B g c p sb c' c'' : Nat} {A A' A'' : Option Addr} {zs : List Int} {wi wr w' : World} {nm nm2 : ByteArray} {u : Bool} {xs : List ByteArray} {o : Obj} (st : InnerState B g A c zs wi wr p sb nm u A' c' xs)
    (ha : Appended (wr.drew.alloc o) w' wi.heap.size A' A'' c'' xs nm2) : StepBox w' sb (.string nm) (.slice A' xs.length c') (.bool u) := by
  have hbl := st.box.lt
  refine (ha.grown.block sb (by show sb < (wr.alloc o).heap.size; simp; omega) ?_).trans ((Below.heap_alloc wr o sb hbl).trans st.box)
  intro e
  cases A' with
  | none => cases e
  | some q => injection e with e; exact st.ne q rfl e.symm

/-- The first step comes after other ones. -/
def setAfter0 (ss : List St) (xs : List ByteArray) : List St := match ss with
  | [] => []
  | t :: r => { t with after := xs } :: r
theorem setAfter0_length (ss : List St) (xs : List ByteArray) : (setAfter0 ss xs).length = ss.length := by cases ss <;> rfl
theorem setAfter0_small {ss : List St} {x : ByteArray} (h : ∀ s ∈ ss, (1 ≤ s.name.size ∧ s.name.size ≤ 6) ∧ s.after.length ≤ 4 ∧ ∀ x ∈ s.after, x.size ≤ 6) (hx : x.size ≤ 6) : ∀ s ∈ setAfter0 ss [x], (1 ≤ s.name.size ∧ s.name.size ≤ 6) ∧ s.after.length ≤ 4 ∧ ∀ x ∈ s.after, x.size ≤ 6 := by
  cases ss with
  | nil => intro s hs; cases hs
  | cons t r =>
    intro s hs
    rcases List.mem_cons.1 hs with rfl | hs
    · exact ⟨(h t (by simp)).1, by simp, fun y hy => by simp at hy; subst hy; exact hx⟩
    · exact h s (by simp [hs])
theorem FlowState.setVer {w wr : World} {B g c fb p sc : Nat} {A SA : Option Addr} {zs : List Int} {ver ver' : Int} {ss : List St} (st : FlowState w B g A c zs fb wr p ver SA sc ss) :
    FlowState w B g A c zs fb (wr.setCell ⟨fb, 0, none⟩ (.int .i64 ver')) p ver' SA sc ss := by
  have hfl := st.fl
  have hgl := st.gl
  have hset : ∀ k, k ≠ fb → (wr.setCell ⟨fb, 0, none⟩ (.int .i64 ver')).heap[k]? = wr.heap[k]? := fun k hk => Below.heap_setCell _ _ _ _ hk
  refine ⟨st.rd.keep fun k hk => hset k (by omega), st.box.set0 _, (hset _ (by omega)).trans st.six, (hset _ (by omega)).trans st.res, st.own.set _ (by show fb < fb + 2; omega) fun q e => (st.rowNe q e).1, st.rowNe, ?_, hgl, hfl, st.small⟩
  exact grown_low st.grown (Nat.le_refl _) ((Below.refl _ _).setCell (by show w.heap.size ≤ fb; omega) _)
theorem FlowState.setAfter {w wr : World} {B g c fb p sc b : Nat} {A : Option Addr} {zs : List Int} {ver : Int} {ss : List St} (st : FlowState w B g A c zs fb wr p ver (some ⟨b, 0, none⟩) sc ss) (h0 : 0 < ss.length) {x : ByteArray} (hx : x.size ≤ 6) :
    (∃ u, wr.cell? ⟨b, 1, none⟩ = some u) ∧ wr.frozen? ⟨b, 1, none⟩ = false ∧
    FlowState w B g A c zs fb ((wr.alloc (.cells #[.string x] 9)).setCell ⟨b, 1, none⟩ (.slice (some ⟨wr.heap.size, 0, none⟩) 1 1)) p ver (some ⟨b, 0, none⟩) sc (setAfter0 ss [x]) := by
  have hfl := st.fl
  have hgl := st.gl
  have hbl := st.box.lt
  have hsl := st.six.lt
  have hrl := st.res.lt
  obtain ⟨hb1, hb2⟩ := st.own.blocks _ rfl
  obtain ⟨hn1, hn2⟩ := st.rowNe _ rfl
  have hb1' : w.heap.size + 1 ≤ b := hb1
  have hb2' : b < wr.heap.size := hb2
  have hn1' : b ≠ fb := hn1
  have hn2' : b ≠ fb + 1 := hn2
  match ss, h0, st with
  | t :: r, _, st =>
  have ho : OwnStrs (wr.alloc (.cells #[.string x] 9)) (fb + 2) (some ⟨wr.heap.size, 0, none⟩) 1 [x] :=
    ⟨World.ownsRow_lit wr #[.string x] 1 (by omega) (by simp only [maxLen]; omega) rfl, fun y hy => by simp at hy; subst hy; omega⟩
  obtain ⟨_, hc, hf, hown⟩ := (st.own.alloc (.cells #[.string x] 9)).after0 ho (fun p e => by injection e with e; subst e; show wr.heap.size ≠ b; omega)
  obtain ⟨u, hu⟩ := hc
  have hset : ∀ k, k ≠ b → k < wr.heap.size → ((wr.alloc (.cells #[.string x] 9)).setCell ⟨b, 1, none⟩ (.slice (some ⟨wr.heap.size, 0, none⟩) 1 1)).heap[k]? = wr.heap[k]? :=
    fun k hk hk2 => (Below.heap_setCell _ _ _ _ hk).trans (Below.heap_alloc _ _ _ hk2)
  refine ⟨⟨u, (World.cell?_alloc_lt wr _ _ hb2').symm.trans hu⟩, (World.frozen?_of_block (Below.heap_alloc wr (.cells #[.string x] 9) b hb2')).symm.trans hf, ?_⟩
  have hlen : (setAfter0 (t :: r) [x]).length = (t :: r).length := rfl
  refine ⟨st.rd.keep fun k hk => hset k (by omega) (by omega), ?_, (hset _ (by omega) hsl).trans st.six, (hset _ (by omega) hrl).trans st.res, hown, st.rowNe, ?_, hgl, hfl, setAfter0_small st.small hx⟩
  · exact (hset fb (by omega) hbl).trans st.box
  · exact grown_low st.grown (Nat.le_refl _) (((Below.refl _ _).alloc (by omega) _).setCell (by show w.heap.size ≤ b; omega) _)
theorem FlowState.done {w wr : World} {B g c fb p sc : Nat} {A SA : Option Addr} {zs : List Int} {ver : Int} {ss : List St} (st : FlowState w B g A c zs fb wr p ver SA sc ss) (u v : Value) :
    OwnSteps ((wr.setCell ⟨w.heap.size, 0, none⟩ u).setCell ⟨w.heap.size, 1, none⟩ v) w.heap.size w.heap.size SA sc ss ∧ Rdr ((wr.setCell ⟨w.heap.size, 0, none⟩ u).setCell ⟨w.heap.size, 1, none⟩ v) B g A c zs p ∧
    w.grownBy ((wr.setCell ⟨w.heap.size, 0, none⟩ u).setCell ⟨w.heap.size, 1, none⟩ v) (some g) := by
  have hfl := st.fl
  have hgl := st.gl
  have hne : ∀ q, SA = some q → q.block ≠ w.heap.size := fun q e => by have := (st.own.blocks q e).1; omega
  refine ⟨((st.own.set u (p := ⟨w.heap.size, 0, none⟩) (by show w.heap.size < fb + 2; omega) hne).set v (p := ⟨w.heap.size, 1, none⟩) (by show w.heap.size < fb + 2; omega) hne).base_ (by omega) (by omega), ?_, ?_⟩
  · exact st.rd.keep fun k hk => (Below.heap_setCell _ _ _ _ (by show k ≠ w.heap.size; omega)).trans (Below.heap_setCell _ _ _ _ (by show k ≠ w.heap.size; omega))
  · exact grown_low st.grown (Nat.le_refl _) (((Below.refl _ _).setCell (by show w.heap.size ≤ w.heap.size; omega) _).setCell (by show w.heap.size ≤ w.heap.size; omega) _)
theorem cell_st {w : World} {a b : Addr} {u v : Value} (hne : a ≠ b) (h : w.cell? b = some u) : (w.setCell a v).cell? b = some u := (World.cell?_setCell_other w a b v hne).trans h

theorem OwnSteps.form {w : World} {lo lo2 sc : Nat} {SA : Option Addr} {ss : List St} (h : OwnSteps w lo lo2 SA sc ss) (h0 : 0 < ss.length) : ∃ b, SA = some ⟨b, 0, none⟩ := by
  obtain ⟨⟨vs, hr, _⟩, _⟩ := h
  rcases hr.2 with ⟨_, hn⟩ | ⟨g, cap, cur, hv, _⟩
  · omega
  · injection hv with h1 _ _; exact ⟨g, h1⟩

/-- A flow is drawn. -/
def DrawnFlow (B g : Nat) (A : Option Addr) (c : Nat) (zs : List Int) (p K : Nat) (w : World) (e : Ending) (w' : World) : Prop :=
  ∃ (ver : Int) (SA : Option Addr) (sc : Nat) (ss : List St) (p' : Nat), e = .returned (.agg #[.int .i64 ver, .slice SA ss.length sc]) ∧ OwnSteps w' w.heap.size w.heap.size SA sc ss ∧
    1 ≤ ss.length ∧ ss.length ≤ 6 ∧ (∀ s ∈ ss, (1 ≤ s.name.size ∧ s.name.size ≤ 6) ∧ s.after.length ≤ 4 ∧ ∀ x ∈ s.after, x.size ≤ 6) ∧ p' ≤ p + K ∧ Rdr w' B g A c zs p' ∧ w.grownBy w' (some g)

set_option maxHeartbeats 40000000 in
theorem l91Flow_any (B g : Nat) (A : Option Addr) (c : Nat) (zs : List Int) (p : Nat) (w : World) (h : Rdr w B g A c zs p) (hp : p ≤ 800000) :
    Calls Try.prog 10 #[.pointer (some ⟨g, 0, none⟩)] w (DrawnFlow B g A c zs p 60 w) := by
  have hgl := h.lt
  go_enter Try.func10, Try.ntmps10
  go_wp2_with fail
  refine (pick_any B g A c zs p _ _ (h.alloc _) (by omega)).mono ?_
  rintro e w1 ⟨v, rfl, hv0, hv1, hr1, hg1⟩
  have hv5 : v ≤ 4 := by omega
  have hsz : w.heap.size < w1.heap.size := by have := hg1.size; simp at this; omega
  have hres1 : FlowBox w1 w.heap.size (.int .i64 0) (.slice none 0 0) := (hg1.block w.heap.size (by simp) (fun e => by injection e with e; omega)).trans (FlowBox.new w _ _)
  have hg1' : w.grownBy w1 (some g) := grown_trans (World.grownBy_alloc _ _ _) hg1
  have st : FlowState w B g A c zs (w1.heap.size + 1) (((w1.alloc (.cells #[] 32)).alloc (.cells #[.int .i64 (1 + v), .slice (some ⟨w1.heap.size, 0, none⟩) 0 0] 25)).alloc (.cells (sixNames.map Value.string).toArray 9)) (p + 1) (1 + v) (some ⟨w1.heap.size, 0, none⟩) 0 [] := {
    rd := ((hr1.alloc _).alloc _).alloc _
    box := by
      have := FlowBox.new (w1.alloc (.cells #[] 32)) (.int .i64 (1 + v)) (.slice (some ⟨w1.heap.size, 0, none⟩) 0 0)
      have e : (w1.alloc (.cells #[] 32)).heap.size = w1.heap.size + 1 := by simp
      rw [e] at this
      exact (Below.heap_alloc _ _ _ (by simp)).trans this
    six := by
      have := heap_alloc_new ((w1.alloc (.cells #[] 32)).alloc (.cells #[.int .i64 (1 + v), .slice (some ⟨w1.heap.size, 0, none⟩) 0 0] 25)) (.cells (sixNames.map Value.string).toArray 9)
      unfold SixBox
      simpa using this
    res := (Below.heap_alloc _ _ _ (by simp; omega)).trans ((Below.heap_alloc _ _ _ (by simp; omega)).trans ((Below.heap_alloc _ _ _ hsz).trans hres1))
    own := (((OwnSteps.lit0 w1 _).alloc _).alloc _).base_ (by omega) (Nat.le_refl _)
    rowNe := fun q hq => by injection hq with hq; subst hq; exact ⟨by show w1.heap.size ≠ _; omega, by show w1.heap.size ≠ _; omega⟩
    grown := grown_alloc (grown_alloc (grown_alloc hg1' _) _) _
    gl := hgl
    fl := by omega
    small := fun s hs => by cases hs }
  have hSt := Lib.hid st
  clear st hres1 hg1 hg1' hr1
  go_wp2_with fail
  clear hv1
  go_loopw [5] (fun i wr => ∃ (k p' : Nat) (SA : Option Addr) (sc : Nat) (ss : List St), k ≤ 6 ∧ i = .int .i64 k ∧ ss.length ≤ k ∧ (0 < k → 1 ≤ ss.length) ∧ p' ≤ p + 1 + 8 * k ∧ FlowState w B g A c zs (w1.heap.size + 1) wr p' (1 + v) SA sc ss) (fun i _ => 6 - (intOf i).toNat)
  case atStart => exact ⟨0, p + 1, _, 0, [], by omega, rfl, by simp, fun h => absurd h (by omega), by omega, hSt.out⟩
  case round =>
    rename_i Kc ac
    clear hSt
    obtain ⟨wo, rfl⟩ : ∃ wo : World, wo = wr := ⟨_, rfl⟩
    obtain ⟨k, p', SA, sc, ss, hk, rfl, hsk, hs1, hp', st⟩ := hrel
    by_cases hlt : k < 6
    · go_upto_region 6 with fail
      go_cut [26] (fun b wx => ∃ (bb : Bool) (p2 : Nat), b = .bool bb ∧ (bb = false → 0 < k) ∧ p2 ≤ p' + 1 ∧ FlowState w B g A c zs (w1.heap.size + 1) wx p2 (1 + v) SA sc ss)
      case first =>
        go_wp2_with fail
        (with_reducible refine (pick_any B g A c zs p' _ _ st.rd (by omega)).mono ?_)
        rintro e w2 ⟨v2, rfl, hv20, hv21, hr2, hg2⟩
        have st2 := st.after hr2 hg2
        by_cases hv2 : 0 < v2
        · go_wp2_with fail
          go_meet
          exact ⟨true, p' + 1, rfl, by simp, by omega, st2⟩
        · obtain rfl : v2 = 0 := by omega
          rcases Nat.eq_zero_or_pos k with rfl | h0
          · go_wp2_with fail
            go_meet
            exact ⟨true, p' + 1, rfl, by simp, by omega, st2⟩
          · have hk0 : ((k : Int) == 0) = false := by simp; omega
            go_wp2_with fail
            go_meet
            exact ⟨false, p' + 1, rfl, fun _ => h0, by omega, st2⟩
      case rest =>
        obtain ⟨bb, p2, rfl, hbb, hp2, st2⟩ := hcut
        cases bb
        · have h0 := hbb rfl
          go_wp2_with fail
          go_roundw
          case rel => exact ⟨k + 1, p2, SA, sc, ss, by omega, by go_num, by omega, fun _ => hs1 h0, by omega, st2⟩
          case measure => simp [intOf]; omega
        · clear hbb
          obtain ⟨wi, rfl⟩ : ∃ wi : World, wi = wc := ⟨_, rfl⟩
          go_upto_region 7 with fail
          go_cut [6] (fun sp wx => ∃ (sb : Nat) (A' : Option Addr) (c' : Nat) (u : Bool), sp = .pointer (some ⟨sb, 0, none⟩) ∧ InnerState B g A c zs wi wx (p2 + 1) sb (sixNames[k]'(by exact hlt)) u A' c' [])
          case first =>
            rename_i a2 J2 K2 a1 a0
            clear a2 ac
            obtain ⟨v7, hv70, hv71, hfix⟩ := pick_fix zs p2 3
            have hn := st2.six.cell hlt
            have hi0 : (0 : Int) ≤ k := by omega
            have hi1 : (k : Int) < 6 := by omega
            have hr0 := Lib.hid (show Rdr wi.drew B g A c zs p2 from st2.rd.keep fun _ _ => rfl)
            have hgw := st2.rd.lt
            have hfw := st2.six.lt
            have hg1 := st2.gl
            have hg0 := st2.fl
            have hn0 : ¬ wi.heap.size = g := by omega
            have hn1 : ¬ wi.heap.size + 1 = g := by omega
            have hcl : ∀ (n : Nat) (W : World), n < W.heap.size → W.cell? ⟨w1.heap.size + 1 + 1, k, none⟩ = some (.string (sixNames[k]'(by exact hlt))) → ∀ W', W.grownBy W' (some g) → W'.cell? ⟨w1.heap.size + 1 + 1, k, none⟩ = some (.string (sixNames[k]'(by exact hlt))) ∧ n < W'.heap.size :=
              fun n W hz hc W' hg => And.intro (hg.cell hc (by intro e; injection e with e; have := st2.gl; have := st2.fl; simp at e; omega)) (Nat.lt_of_lt_of_le hz hg.size)
            have hk1 : ∀ o, (wi.alloc o).cell? ⟨w1.heap.size + 1 + 1, k, none⟩ = some (.string (sixNames[k]'(by exact hlt))) := fun o => (World.cell?_alloc_lt wi o _ hfw).trans hn
            have hk2 : ∀ o o', ((wi.alloc o).alloc o').cell? ⟨w1.heap.size + 1 + 1, k, none⟩ = some (.string (sixNames[k]'(by exact hlt))) := fun o o' => (World.cell?_alloc_lt _ o' _ (by show w1.heap.size + 1 + 1 < _; simp; omega)).trans (hk1 o)
            have Hq0 := Lib.hid (hfix.keep hr0.out (by omega) (hcl (w1.heap.size + 1 + 1) wi.drew hfw hn))
            have Hq1 := Lib.hid (fun o => hfix.keep (W := (wi.alloc o).drew) ((st2.rd.alloc o).keep fun _ _ => rfl) (by omega) (hcl wi.heap.size _ (by simp) (hk1 o)))
            have Hq2 := Lib.hid (fun o o' => hfix.keep (W := ((wi.alloc o).alloc o').drew) (((st2.rd.alloc o).alloc o').keep fun _ _ => rfl) (by omega) (hcl (wi.heap.size + 1) _ (by simp) (hk2 o o')))
            have Hk1 := Lib.hid hk1
            have Hk2 := Lib.hid hk2
            clear hcl hk1 hk2 hfix
            clear hsk hs1 hp' hp2 st hv70 hv71
            go_region_held3 (fun w' => w'.cell? ⟨w1.heap.size + 1 + 1, k, none⟩ = some (.string (sixNames[k]'(by exact hlt)))) (with_reducible (repeat (first | exact hS7 | exact hn | refine cell_al ?_ _ | refine cell_dr ?_ | refine cell_set3 _ _ (by first | omega | (simp; omega)) ?_)))
              (first
                | (go_at_call 11; (with_reducible refine Hq0.out.mono ?_); rintro e w7 ⟨rfl, hr7, hg7, ⟨hS7, hz7⟩, hC7, hF7, _⟩)
                | (go_at_call 11; (with_reducible refine (Hq1.out _).mono ?_); rintro e w7 ⟨rfl, hr7, hg7, ⟨hS7, hz7⟩, hC7, hF7, _⟩)
                | (go_at_call 11; (with_reducible refine (Hq2.out _ _).mono ?_); rintro e w7 ⟨rfl, hr7, hg7, ⟨hS7, hz7⟩, hC7, hF7, _⟩))
            all_goals
              refine a0 _ _ (Met.intro (a1 _ _ ?_))
              (repeat apply Exists.intro)
              refine ⟨?_, rfl⟩
              have hsz7 := hg7.size
              have hlow : ∀ {W : World}, W.grownBy w7 (some g) → ∀ k, k < W.heap.size → wi.heap.size ≤ k → w7.heap[k]? = W.heap[k]? := fun hg k h1 h2 => hg.block k h1 (fun e => by injection e with e; omega)
              simp at hsz7
            · exact ⟨_, _, 0, _, rfl, InnerState.mk0 (hr7.alloc _) (grown_mid (((Below.refl _ _).alloc (Nat.le_refl _) _).drew) hg7 ((Below.refl _ _).alloc (by omega) _)) hgw w7.heap.size wi.heap.size
                (StepBox.new _ _ _ _) ((Below.heap_alloc _ _ _ hz7).trans ((hlow hg7 _ (by simp) (Nat.le_refl _)).trans (heap_alloc_new wi _))) (by omega) (Nat.le_refl _) (by omega)⟩
            · exact ⟨_, _, 0, _, rfl, InnerState.mk0 (hr7.below (B0 := wi.heap.size) (set3_below _ _ _ (by omega)) hgw) (grown_mid ((((Below.refl _ _).alloc (Nat.le_refl _) _).alloc (by simp) _).drew) hg7 (set3_below _ _ _ (by omega))) hgw (wi.heap.size + 1) wi.heap.size
                (box_set3 _ _ _ ((hlow hg7 _ (by simp) (by omega)).trans (al2' wi _ _))) ((set3_other _ _ _ (by omega)).trans ((hlow hg7 _ (by simp; omega) (Nat.le_refl _)).trans ((al2 wi _ _).trans (heap_alloc_new wi _)))) (by omega) (Nat.le_refl _) (by omega)⟩
            · exact ⟨_, _, 0, _, rfl, InnerState.mk0 ((hr7.alloc _).alloc _) (grown_mid (Below.refl _ _).drew hg7 (((Below.refl _ _).alloc (by omega) _).alloc (by simp; omega) _)) hgw (w7.heap.size + 1) w7.heap.size
                (al2' w7 _ _) ((al2 w7 _ _).trans (heap_alloc_new w7 _)) (by omega) (by omega) (by omega)⟩
            · exact ⟨_, _, 0, _, rfl, InnerState.mk0 ((hr7.alloc _).alloc _) (grown_mid (Below.refl _ _).drew hg7 (((Below.refl _ _).alloc (by omega) _).alloc (by simp; omega) _)) hgw w7.heap.size (w7.heap.size + 1)
                ((al2 w7 _ _).trans (heap_alloc_new w7 _)) (al2' w7 _ _) (by omega) (by omega) (by omega)⟩
            · exact ⟨_, _, 0, _, rfl, InnerState.mk0 (hr7.below (B0 := wi.heap.size) (set3_below _ _ _ (by omega)) hgw) (grown_mid ((((Below.refl _ _).alloc (Nat.le_refl _) _).alloc (by simp) _).drew) hg7 (set3_below _ _ _ (by omega))) hgw wi.heap.size (wi.heap.size + 1)
                (box_set3 _ _ _ ((hlow hg7 _ (by simp; omega) (Nat.le_refl _)).trans ((al2 wi _ _).trans (heap_alloc_new wi _)))) ((set3_other _ _ _ (by omega)).trans ((hlow hg7 _ (by simp) (by omega)).trans (al2' wi _ _))) (by omega) (by omega) (by omega)⟩
            · exact ⟨_, _, 0, _, rfl, InnerState.mk0 ((hr7.below (B0 := wi.heap.size) (set3_below _ _ _ (by omega)) hgw).alloc _) (grown_mid (((Below.refl _ _).alloc (Nat.le_refl _) _).drew) hg7 ((set3_below _ _ _ (Nat.le_refl _)).alloc (by simp; omega) _)) hgw wi.heap.size w7.heap.size
                ((Below.heap_alloc _ _ _ (by simp; omega)).trans (box_set3 _ _ _ ((hlow hg7 _ (by simp) (Nat.le_refl _)).trans (heap_alloc_new wi _)))) (by
                  have := heap_alloc_new (((w7.setCell ⟨wi.heap.size, 0, none⟩ (.string (sixNames[k]'(by exact hlt)))).setCell ⟨wi.heap.size, 1, none⟩ (.slice (some ⟨w7.heap.size, 0, none⟩) 0 0)).setCell ⟨wi.heap.size, 2, none⟩ (.bool (decide (0 < v7)))) (.cells #[] 9)
                  simpa using this) (by omega) (by omega) (by omega)⟩
          case rest =>
            obtain ⟨sb, A', c', u, rfl, si⟩ := hcut
            have hnm6 : 1 ≤ (sixNames[k]'(by exact hlt)).size ∧ (sixNames[k]'(by exact hlt)).size ≤ 6 := sixNames_size _ (List.getElem_mem _)
            obtain ⟨nm, hnm⟩ : ∃ nm, nm = sixNames[k]'(by exact hlt) := ⟨_, rfl⟩
            rw [← hnm] at si hnm6
            clear hnm
            have hSi := Lib.hid si
            clear si
            go_wp2_with fail
            go_loopw [7] (fun q wr => ∃ (n p3 : Nat) (A' : Option Addr) (c' : Nat) (xs : List ByteArray), n ≤ ss.length ∧ q = .int .i64 n ∧ p3 ≤ p2 + 1 + n ∧ InnerState B g A c zs wi wr p3 sb nm u A' c' xs) (fun q _ => ss.length - (intOf q).toNat)
            case atStart => exact ⟨0, p2 + 1, A', c', [], Nat.zero_le _, rfl, by omega, hSi.out⟩
            case round =>
              clear hSi
              obtain ⟨wq, rfl⟩ : ∃ wq : World, wq = wr := ⟨_, rfl⟩
              obtain ⟨n, p3, A', c', xs, hn, rfl, hp3, si⟩ := hrel
              have fs := st2.after si.rd si.grown
              obtain ⟨f0, f1⟩ := fs.box.cells
              obtain ⟨s0, s1, s2⟩ := si.box.cells
              by_cases hnl : n < ss.length
              · go_wp2_with fail
                (with_reducible refine (pick_any B g A c zs p3 _ _ si.rd (by omega)).mono ?_)
                rintro e wp ⟨v3, rfl, hv30, hv31, hr3, hg3⟩
                have si2 := si.after hr3 hg3
                have fs2 := st2.after si2.rd si2.grown
                clear f0 f1 s0 s1 s2 fs si hr3 hg3
                obtain ⟨f0, f1⟩ := fs2.box.cells
                obtain ⟨s0, s1, s2⟩ := si2.box.cells
                by_cases hv3 : v3 = 0
                · subst hv3
                  by_cases h4 : xs.length < 4
                  · obtain ⟨ad, A1, c1, rfl, _, hc0, hc1, hc2, hs1⟩ := fs2.own.sts.at_ hnl
                    have hi0 : (0 : Int) ≤ n := by omega
                    have hi1 : (n : Int) < ss.length := by omega
                    have hsz := fs2.own.lens n hnl
                    have hsz6 : ss[n].name.size ≤ 6 := (st2.small _ (List.getElem_mem hnl)).1.2
                    have hlc := fs2.own.sts.len
                    have hlc2 := fs2.own.sts.cap
                    have hown := Lib.hid (own_move (w' := (wp.alloc (.cells #[.string ss[n].name] 9)).drew) (si2.own.alloc (.cells #[.string ss[n].name] 9)) (fun _ _ _ => rfl))
                    have hcell := Lib.hid (show (wp.alloc (.cells #[.string ss[n].name] 9)).drew.cell? ⟨wp.heap.size, 0, none⟩ = some (.string ss[n].name) from cell_new1 wp _ _)
                    have hbase : wi.heap.size ≤ wp.heap.size := si2.grown.size
                    clear hc1 hc2 hs1
                    have e0 := cell_al s1 (.cells #[.string ss[n].name] 9)
                    have e1 := cell_al f1 (.cells #[.string ss[n].name] 9)
                    have e2 := cell_al hc0 (.cells #[.string ss[n].name] 9)
                    go_wp2_with fail
                    go_region_law ((refine step_append_name _ rfl (.tmp 53) (.tmp 60) rfl wi.heap.size A' c' xs (by simp [Act.eval]) hown.out ⟨wp.heap.size, 0, none⟩ 1 ss[n].name (by simp [Act.eval]) hcell.out (by omega) (by omega) (by simp; omega) ?_; intro A3 c3 w3 hap; obtain ⟨k0, k1, k2⟩ := (si2.boxAfter hap).cells; have kf := (si2.boxAfter hap).free 1))
                    all_goals
                      go_wp2_with fail
                      go_roundw
                      case rel => exact ⟨n + 1, p3 + 1, A3, c3, xs ++ [ss[n].name], by omega, by go_num, by omega, by have := si2.pushed hap h4 hsz6; simpa using this⟩
                      case measure => simp [intOf]; omega
                  · go_wp2_with fail
                    go_roundw
                    case rel => exact ⟨n + 1, p3 + 1, A', c', xs, by omega, by go_num, by omega, si2⟩
                    case measure => simp [intOf]; omega
                · have hv3' : (v3 == 0) = false := by simpa using hv3
                  go_wp2_with fail
                  go_roundw
                  case rel => exact ⟨n + 1, p3 + 1, A', c', xs, by omega, by go_num, by omega, si2⟩
                  case measure => simp [intOf]; omega
              · obtain rfl : n = ss.length := by omega
                have ht : (1 ≤ nm.size ∧ nm.size ≤ 6) ∧ xs.length ≤ 4 ∧ ∀ x ∈ xs, x.size ≤ 6 := ⟨hnm6, si.lens⟩
                have hown := Lib.hid (fs.own.alloc (.cells #[.string nm, .slice A' xs.length c', .bool u] 32))
                have hx := Lib.hid ((si.own.base_ (base' := w1.heap.size + 1 + 2) (by have := st2.six.lt; omega)).alloc (.cells #[.string nm, .slice A' xs.length c', .bool u] 32))
                have hne : Hid (∀ p q, A' = some p → SA = some q → Addr.block p ≠ Addr.block q) := fun p q hp hq => by
                  subst hp
                  have h1 := own_lt si.own
                  have h2 := st2.own.blocks q hq
                  omega
                have hcs := Lib.hid (step_new_cells wq nm A' xs.length c' u)
                have hbase : w.heap.size + 1 ≤ wq.heap.size := by have := fs.own; have := fs.six.lt; have := fs.fl; omega
                go_wp2_with (at_builtin; (refine wpList_append_step _ rfl (.tmp 64) (.tmp 66) rfl (w.heap.size + 1) (w1.heap.size + 1 + 2) SA sc ss rfl hown.out ⟨wq.heap.size, 0, none⟩ 1 ⟨nm, xs, u⟩ A' c' rfl hcs.out hx.out hne.out (by show nm.size ≤ _; omega) (by omega) (by simp; omega) ?_); intro SA3 sc3 w3 hap; obtain ⟨k0, k1⟩ := (fs.boxAfter hap).cells; have kf := (fs.boxAfter hap).free 1)
                go_wp2_with fail
                go_roundw
                case rel =>
                  have hfin := fs.pushed hap ht
                  have hl1 : (ss ++ [(⟨nm, xs, u⟩ : St)]).length = ss.length + 1 := by simp
                  exact ⟨k + 1, p3, SA3, sc3, ss ++ [⟨nm, xs, u⟩], by omega, by go_num, by omega, fun _ => by omega, by omega, hfin⟩
                case measure => simp [intOf]; omega
    · obtain rfl : k = 6 := by omega
      have h1 := hs1 (by omega)
      clear hs1
      go_wp2_with fail
      (with_reducible refine (pick_any B g A c zs p' _ _ st.rd (by omega)).mono ?_)
      rintro e w4 ⟨v4, rfl, hv40, hv41, hr4, hg4⟩
      have st4 := st.after hr4 hg4
      clear st hr4 hg4 hv41
      by_cases hv0 : v4 = 0
      · subst hv0
        go_wp2_with fail
        (with_reducible refine (pick_any B g A c zs (p' + 1) _ _ (st4.rd.alloc _) (by omega)).mono ?_)
        rintro e w5 ⟨v5, rfl, hv50, hv51, hr5, hg5⟩
        have st5 := (st4.below_ ((Below.refl _ _).alloc (Nat.le_refl _) (.cells #[.int .i64 0, .int .i64 99, .int .i64 100] 3))).after hr5 hg5
        have hgw := st4.rd.lt
        have hc : ∀ i, w5.cell? ⟨w4.heap.size, i, none⟩ = (w4.alloc (.cells #[.int .i64 0, .int .i64 99, .int .i64 100] 3)).cell? ⟨w4.heap.size, i, none⟩ :=
          fun i => World.cell?_of_block (w := w4.alloc _) (a := ⟨w4.heap.size, i, none⟩) (hg5.block w4.heap.size (by simp) (fun e => by injection e with e; omega))
        obtain ⟨f0, f1⟩ := st5.box.cells
        have ff := st5.box.free 0
        clear hr5 hg5 st4 hgw
        rcases (show v5 = 0 ∨ v5 = 1 ∨ v5 = 2 by omega) with rfl | rfl | rfl
        · go_upto_region 21 with fail
          clear f0 f1
          have hst := st5.setVer (ver' := 0)
          obtain ⟨f0, f1⟩ := hst.box.cells
          obtain ⟨r0, r1⟩ := hst.res.cells
          have rf := fun i => hst.res.free i
          have hD := Lib.hid (hst.done (.int .i64 0) (.slice SA ss.length sc))
          have hsm := Lib.hid hst.small
          clear hst
          go_wp2_with fail
          refine bodyPost_ret (v := .agg #[.int .i64 0, .slice SA ss.length sc]) (by simp [results, Try.results10, go_sem, r0, r1]) rfl ?_
          exact ⟨0, SA, sc, ss, p' + 1 + 1, rfl, hD.out.1, by omega, by omega, hsm.out, by omega, hD.out.2.1, hD.out.2.2⟩
        · go_upto_region 21 with fail
          clear f0 f1
          have hst := st5.setVer (ver' := 99)
          obtain ⟨f0, f1⟩ := hst.box.cells
          obtain ⟨r0, r1⟩ := hst.res.cells
          have rf := fun i => hst.res.free i
          have hD := Lib.hid (hst.done (.int .i64 99) (.slice SA ss.length sc))
          have hsm := Lib.hid hst.small
          clear hst
          go_wp2_with fail
          refine bodyPost_ret (v := .agg #[.int .i64 99, .slice SA ss.length sc]) (by simp [results, Try.results10, go_sem, r0, r1]) rfl ?_
          exact ⟨99, SA, sc, ss, p' + 1 + 1, rfl, hD.out.1, by omega, by omega, hsm.out, by omega, hD.out.2.1, hD.out.2.2⟩
        · go_upto_region 21 with fail
          clear f0 f1
          have hst := st5.setVer (ver' := 100)
          obtain ⟨f0, f1⟩ := hst.box.cells
          obtain ⟨r0, r1⟩ := hst.res.cells
          have rf := fun i => hst.res.free i
          have hD := Lib.hid (hst.done (.int .i64 100) (.slice SA ss.length sc))
          have hsm := Lib.hid hst.small
          clear hst
          go_wp2_with fail
          refine bodyPost_ret (v := .agg #[.int .i64 100, .slice SA ss.length sc]) (by simp [results, Try.results10, go_sem, r0, r1]) rfl ?_
          exact ⟨100, SA, sc, ss, p' + 1 + 1, rfl, hD.out.1, by omega, by omega, hsm.out, by omega, hD.out.2.1, hD.out.2.2⟩
      · have hv0' : (v4 == 0) = false := by simpa using hv0
        by_cases hv1 : v4 = 1
        · subst hv1
          obtain ⟨b, rfl⟩ := st4.own.form (by omega)
          obtain ⟨x, hx⟩ : ∃ x, x = (ss[ss.length - 1]'(by omega)).name := ⟨_, rfl⟩
          have hx6 : x.size ≤ 6 := by rw [hx]; exact (st4.small _ (List.getElem_mem _)).1.2
          obtain ⟨⟨u, hu⟩, hfz, st5⟩ := st4.setAfter (x := x) (by omega) hx6
          have hnm : w4.cell? ⟨b, (ss.length - 1) * 3, none⟩ = some (.string x) := by
            obtain ⟨ad, A1, c1, e, _, hc0, _⟩ := st4.own.sts.at_ (k := ss.length - 1) (by omega)
            injection e with e
            subst e
            have hadd : (⟨b, 0, none⟩ : Addr).add ((ss.length - 1) * 3) = ⟨b, (ss.length - 1) * 3, none⟩ := by unfold Addr.add; split <;> simp_all
            rw [hadd, ← hx] at hc0
            exact hc0
          have hneA : (⟨b, 1, none⟩ : Addr) ≠ ⟨w1.heap.size + 1, 1, none⟩ := fun e => (st4.rowNe _ rfl).1 (congrArg Addr.block e)
          have hneB : (⟨b, 1, none⟩ : Addr) ≠ ⟨b, (ss.length - 1) * 3, none⟩ := fun e => by injection e with _ e; omega
          obtain ⟨f0, f1⟩ := st4.box.cells
          have hi0 : (0 : Int) < ss.length := by omega
          have hi0n : 0 < ss.length := h1
          have hi1 : (0 : Int) ≤ (ss.length : Int) - 1 := by omega
          have hi2 : (1 : Int) ≤ ss.length := by omega
          have hi3 : (ss.length : Int) - 1 < ss.length := by omega
          have hi4 : IntKind.i64.wrap ((ss.length : Int) - 1) = (ss.length : Int) - 1 := IntWalk.i64_in _ (by omega)
          have hi5 : ((ss.length : Int) - 1).toNat = ss.length - 1 := by omega
          have e0 := cell_al hu (.cells #[.string x] 9)
          have e1 : (w4.alloc (.cells #[.string x] 9)).frozen? ⟨b, 1, none⟩ = false := (World.frozen?_of_block (Below.heap_alloc w4 _ b (World.block_lt_of_cell? w4 _ hu))).trans hfz
          have hlc := st4.own.sts.len
          have hlc2 := st4.own.sts.cap
          have Hx := Lib.hid hx
          clear hx
          go_upto_region 18 with fail
          go_region_held3 (fun w' => w'.cell? ⟨w1.heap.size + 1, 1, none⟩ = some (.slice (some ⟨b, 0, none⟩) ss.length sc) ∧ w'.cell? ⟨b, (ss.length - 1) * 3, none⟩ = some (.string x))
            (exact And.intro (by with_reducible (repeat (first | exact f1 | refine cell_al ?_ _ | refine cell_dr ?_ | refine cell_st hneA ?_))) (by with_reducible (repeat (first | exact hnm | refine cell_al ?_ _ | refine cell_dr ?_ | refine cell_st hneB ?_)))) (fail)
          go_upto_region 21 with fail
          clear f0 f1
          have hst := st5
          obtain ⟨f0, f1⟩ := hst.box.cells
          obtain ⟨r0, r1⟩ := hst.res.cells
          have rf := fun i => hst.res.free i
          have hD := Lib.hid (hst.done (.int .i64 (1 + v)) (.slice (some ⟨b, 0, none⟩) ss.length sc))
          have hsm := Lib.hid hst.small
          have hsl := Lib.hid (show 1 ≤ (setAfter0 ss [x]).length ∧ (setAfter0 ss [x]).length ≤ 6 by rw [setAfter0_length]; omega)
          clear hst
          go_wp2_with fail
          refine bodyPost_ret (v := .agg #[.int .i64 (1 + v),   .slice (some ⟨b, 0, none⟩) ss.length sc]) (by simp [results, Try.results10, go_sem, r0, r1]) rfl ?_
          exact ⟨(1 + v), _, sc, (setAfter0 ss [x]), p' + 1, by rw [setAfter0_length], hD.out.1.drew, hsl.out.1, hsl.out.2, hsm.out, by omega, hD.out.2.1.keep fun _ _ => rfl, ⟨hD.out.2.2.os, hD.out.2.2.tape, hD.out.2.2.output, hD.out.2.2.size, hD.out.2.2.block⟩⟩
        · have hv1' : (v4 == 1) = false := by simpa using hv1
          by_cases hv2 : v4 = 2
          · subst hv2
            obtain ⟨b, rfl⟩ := st4.own.form (by omega)
            obtain ⟨⟨u, hu⟩, hfz, st5⟩ := st4.setAfter (x := ⟨#[122, 122]⟩) (by omega) (by decide)
            obtain ⟨f0, f1⟩ := st4.box.cells
            have hi0 : (0 : Int) < ss.length := by omega
            have e0 := cell_al hu (.cells #[.string ⟨#[122, 122]⟩] 9)
            have e1 : (w4.alloc (.cells #[.string ⟨#[122, 122]⟩] 9)).frozen? ⟨b, 1, none⟩ = false := (World.frozen?_of_block (Below.heap_alloc w4 _ b (World.block_lt_of_cell? w4 _ hu))).trans hfz
            have hlc := st4.own.sts.len
            have hlc2 := st4.own.sts.cap
            go_upto_region 21 with fail
            clear f0 f1
            have hst := st5
            obtain ⟨f0, f1⟩ := hst.box.cells
            obtain ⟨r0, r1⟩ := hst.res.cells
            have rf := fun i => hst.res.free i
            have hD := Lib.hid (hst.done (.int .i64 (1 + v)) (.slice (some ⟨b, 0, none⟩) (setAfter0 ss [⟨#[122, 122]⟩]).length sc))
            have hsm := Lib.hid hst.small
            have hsl := Lib.hid (show 1 ≤ (setAfter0 ss [⟨#[122, 122]⟩]).length ∧ (setAfter0 ss [⟨#[122, 122]⟩]).length ≤ 6 by rw [setAfter0_length]; omega)
            clear hst
            go_wp2_with fail
            refine bodyPost_ret (v := .agg #[.int .i64 (1 + v), .slice (some ⟨b, 0, none⟩) (setAfter0 ss [⟨#[122, 122]⟩]).length sc]) (by simp [results, Try.results10, go_sem, r0, r1]) rfl ?_
            exact ⟨(1 + v), _, sc, (setAfter0 ss [⟨#[122, 122]⟩]), p' + 1, rfl, hD.out.1, hsl.out.1, hsl.out.2, hsm.out, by omega, hD.out.2.1, hD.out.2.2⟩
          · have hv2' : (v4 == 2) = false := by simpa using hv2
            go_upto_region 21 with fail
            have hst := st4
            obtain ⟨f0, f1⟩ := hst.box.cells
            obtain ⟨r0, r1⟩ := hst.res.cells
            have rf := fun i => hst.res.free i
            have hD := Lib.hid (hst.done (.int .i64 (1 + v)) (.slice SA ss.length sc))
            have hsm := Lib.hid hst.small
            clear hst
            go_wp2_with fail
            refine bodyPost_ret (v := .agg #[.int .i64 (1 + v), .slice SA ss.length sc]) (by simp [results, Try.results10, go_sem, r0, r1]) rfl ?_
            exact ⟨(1 + v), SA, sc, ss, p' + 1, rfl, hD.out.1, by omega, by omega, hsm.out, by omega, hD.out.2.1, hD.out.2.2⟩

end Go.Proofs.Ytdjgpoenlmhonaa
