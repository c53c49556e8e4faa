/- What FnEventDamage's listed variables and the world's shape give, and a world that meets the condition. No condition. -/
import Derived.Test.YtfodedakhnoplaaDoorCloseF
import Derived.Test.YtfodedakhnoplaaDoorFrom
import Derived.Stop.LaidErr
import Derived.Handed
import Derived.HandedShaped
import Derived.OpenShut
import Derived.Lay
namespace Go.Proofs.YtfodedakhnoplaaDoor
set_option linter.unusedVariables false
set_option maxRecDepth 100000
open Go.ChangeShapes Go.WideShapes Go.ChangeAt Go.RowKit

noncomputable def laidD : List (String × DataW Unit) := Rows.fnEventDamageRow.laid
theorem gSyn : Tryd.prog.globalNamed "strconv.ErrSyntax" = some 1 := by kernel_rfl
theorem gRan : Tryd.prog.globalNamed "strconv.ErrRange" = some 2 := by kernel_rfl
theorem tSyn : (Tryd.prog.globals[1]?).map (·.type) = some 54 := by kernel_rfl
theorem tRan : (Tryd.prog.globals[2]?).map (·.type) = some 54 := by kernel_rfl
theorem cErr : Tryd.prog.cellsOf 106 = 1 := by kernel_rfl
theorem cStr : Tryd.prog.cellsOf 9 = 1 := by kernel_rfl
theorem star : "*" ++ "errors.errorString" = "*errors.errorString" := by decide
theorem rowErr (u : TypeId) (h : Tryd.prog.typeName? 3 u = some "*errors.errorString") : u = 104 :=
  typeName_ptr_named (nm := "errors.errorString") (by rw [star]; kernel_rfl) (by kernel_rfl) (by decide) u (by rw [star]; exact h)

/-- The two lists of plain data that the walks read, out of any list. -/
theorem words_of {W : World} {g : Nat} {t : TypeId} {cs : Array Value} {fuel : Nat} {p : List MemPlace} (hg : Tryd.prog.globalNamed "loop.example/sagaflows/impl.eventWords" = some g) (ht : (Tryd.prog.globals[g]?).map (·.type) = some t)
    (hv3 : W.var? Tryd.prog "loop.example/sagaflows/impl.eventWords" = some cs) {d3 : DataW Unit} (hd : d3 = Rows.laid_loop_example_sagaflows_impl_eventWords) {enc : TypeId × Value → Unit} {b : Nat} {sp : Nat → Bool} {held : Bool} (hd3 : DataW.trod enc Tryd.prog W b sp held fuel t cs.toList = some (d3, p)) :
    ∃ ad c, W.cell? ⟨0, 0, none⟩ = some (.slice (some ad) 4 c) ∧ 0 < W.heap.size ∧ ad.block < W.heap.size ∧ 4 ≤ c ∧ ∀ j (h : j < wordsB.length), W.cell? (ad.add j) = some (.string wordsB[j]) := by
  subst hd
  obtain rfl := Option.some.inj (gWords.symm.trans hg)
  obtain rfl := Option.some.inj (tWords.symm.trans ht)
  obtain ⟨a, cap, hcs, hcap, hel⟩ := open_row Tryd.underlying47 (by kernel_rfl) hd3
  have hcell := World.var?_cell hg hv3 0
  rw [Array.eq_one_of_toList hcs] at hcell
  have hc0 : W.cell? ⟨0, 0, none⟩ = some (.slice (some a) 4 cap) := by simpa using hcell
  have hw : ∀ j (hj : j < wordsB.length), W.cell? (a.add j) = some (.string wordsB[j]) := by
    intro j hj
    have key : ∀ (i : Nat) (v : Value) (s s' : ByteArray) (l : List UInt8), W.cell? (a.add i) = some v → [v] = [Value.string s'] → l = s'.data.toList → l = s.data.toList → W.cell? (a.add i) = some (.string s) := by
      intro i v s s' l hv h1 h2 h3
      have e : s = s' := by
        have := h3.symm.trans h2
        cases s; cases s'
        simpa using this
      subst e
      simp only [List.cons.injEq, and_true] at h1
      rw [hv, h1]
    match j, hj with
    | 0, _ =>
      obtain ⟨v, n, q, hv, ht⟩ := hel 0 _ rfl
      obtain ⟨s', hs', hx, _⟩ := DataW.trod_string Tryd.underlying9 ht
      simp only [Prod.mk.injEq, DataW.lit.injEq, Lit.string.injEq] at hx
      exact key 0 v _ s' _ hv hs' hx.1 rfl
    | 1, _ =>
      obtain ⟨v, n, q, hv, ht⟩ := hel 1 _ rfl
      obtain ⟨s', hs', hx, _⟩ := DataW.trod_string Tryd.underlying9 ht
      simp only [Prod.mk.injEq, DataW.lit.injEq, Lit.string.injEq] at hx
      exact key 1 v _ s' _ hv hs' hx.1 rfl
    | 2, _ =>
      obtain ⟨v, n, q, hv, ht⟩ := hel 2 _ rfl
      obtain ⟨s', hs', hx, _⟩ := DataW.trod_string Tryd.underlying9 ht
      simp only [Prod.mk.injEq, DataW.lit.injEq, Lit.string.injEq] at hx
      exact key 2 v _ s' _ hv hs' hx.1 rfl
    | 3, _ =>
      obtain ⟨v, n, q, hv, ht⟩ := hel 3 _ rfl
      obtain ⟨s', hs', hx, _⟩ := DataW.trod_string Tryd.underlying9 ht
      simp only [Prod.mk.injEq, DataW.lit.injEq, Lit.string.injEq] at hx
      exact key 3 v _ s' _ hv hs' hx.1 rfl
  exact ⟨a, cap, hc0, World.block_lt_of_cell? W _ hc0, by have := World.block_lt_of_cell? W _ (hw 0 (by decide)); rwa [block_of_add] at this, by simpa using hcap, hw⟩

/-- What the condition gives the walks. -/
theorem laidD_of {W : World} (h : laidMetH Tryd.prog laidD W) (hsh : W.ShapedOpen Tryd.prog) : LaidD W.heap.size W := by
  unfold laidD at h
  rw [MakeChecks.laidMetH_plain _ _ _ (by kernel_rfl)] at h
  have hm : laidMet Tryd.prog (("math/bits.deBruijn32tab", Rows.laid_math_bits_deBruijn32tab) :: ("math/bits.deBruijn64tab", Rows.laid_math_bits_deBruijn64tab) :: ("internal/strconv.uint64pow10", Rows.laid_internal_strconv_uint64pow10) :: ("unicode/utf8.acceptRanges", Rows.laid_unicode_utf8_acceptRanges) :: ("strconv.ErrRange", Rows.laid_strconv_ErrRange) :: ("strconv.ErrSyntax", Rows.laid_strconv_ErrSyntax) :: ("loop.example/sagaflows/impl.eventWords", Rows.laid_loop_example_sagaflows_impl_eventWords) :: ("unicode/utf8.first", Rows.laid_unicode_utf8_first) :: []) W := h
  obtain ⟨ar, sr, hvr, _⟩ := laid_sentinel hm.tail.tail.tail.tail gRan tRan Tryd.underlying54 rowErr Tryd.underlying104 Tryd.underlying106 rfl rfl Tryd.underlying9 cErr cStr
  obtain ⟨as_, ss, hvs, _⟩ := laid_sentinel hm.tail.tail.tail.tail.tail gSyn tSyn Tryd.underlying54 rowErr Tryd.underlying104 Tryd.underlying106 rfl rfl Tryd.underlying9 cErr cStr
  have cr := World.var?_cell gRan hvr 0
  have cs := World.var?_cell gSyn hvs 0
  obtain ⟨m, hmx⟩ := Tryd.laysM146.s1_3 W hsh
  have cm : W.cell? ⟨4, 0, none⟩ = some (.int .i64 m) := hmx
  obtain ⟨_, ⟨g2, t2, cs2, f2, p2, q2, hg2, ht2, hv2, hd2, _⟩, _⟩ := hm.tail.tail
  obtain ⟨_, ⟨g3, t3, cs3, f3, p3, q3, hg3, ht3, hv3, hd3, _⟩, _⟩ := hm.tail.tail.tail.tail.tail.tail
  obtain rfl := Option.some.inj (gPow.symm.trans hg2)
  obtain rfl := Option.some.inj (tPow.symm.trans ht2)
  refine ⟨⟨Lib.tabBelow_of_tabIs ?_, words_of hg3 ht3 hv3 rfl hd3⟩, ⟨m, cm, World.block_lt_of_cell? W _ cm⟩, ⟨_, _, cs, World.block_lt_of_cell? W _ cs⟩, ⟨_, _, cr, World.block_lt_of_cell? W _ cr⟩⟩
  unfold Lib.TabIs
  rw [hv2, ← Lib.cells_of_tab (k := .u64) (zs := Lib.pow10Tab) (n := 20) Tryd.underlying98 Tryd.underlying82 (by kernel_rfl) (by kernel_rfl) hd2]
end Go.Proofs.YtfodedakhnoplaaDoor
