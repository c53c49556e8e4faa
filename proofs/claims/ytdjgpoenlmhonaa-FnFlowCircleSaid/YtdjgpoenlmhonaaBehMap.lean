/- Words for memory: a map from names to words, that tells who is in a list. No condition. -/
import Derived.Test.YtdjgpoenlmhonaaFlowFns
import Derived.Maps.OwnSet
namespace Go.Proofs.Ytdjgpoenlmhonaa
set_option linter.unusedVariables false
set_option maxRecDepth 100000
open Go.RowKit Go.Maps

theorem keyedS : Keyed Try.prog 9 := string_keyed Try.underlying9
theorem zeroB (w : World) : (zeroValue 4).run Try.prog w = .ok (.bool false) w := by kernel_rfl
theorem plainElem_bool_inv {v : Value} {z : DataW Unit × List MemPlace} (h : plainElem Try.prog 4 v = some z) : ∃ x, v = .bool x ∧ z = (.lit (.bool x), []) := by
  unfold plainElem at h
  rw [Try.underlying4] at h
  cases v <;> simp at h
  exact ⟨_, rfl, h.symm⟩
/-- The name as a key. -/
def keyLit (s : ByteArray) : Lit := .string s.data.toList
theorem keyLit_ne {s t : ByteArray} (h : s ≠ t) : keyLit s ≠ keyLit t := fun e => h (by
  unfold keyLit at e
  injection e with e
  exact toList_inj (by rw [ByteArray.toList_eq, ByteArray.toList_eq]; exact e))
/-- The map tells who is in S. -/
def Told (w : World) (b n : Nat) (S : List ByteArray) : Prop :=
  ∃ D : DataW Unit, w.ownsMap Try.prog 9 (plainElem Try.prog 4) b n D ∧ ∀ s, D.atKey (keyLit s) (.lit (.bool false)) = .lit (.bool (has S s))
section
variable {w w' : World} {b n : Nat} {S : List ByteArray}
theorem Told.made (w : World) : Told (w.alloc (.map #[] 0)) w.heap.size 0 [] :=
  ⟨.map [], World.ownsMap_made _ _ _ _, fun s => by rw [has_no (by simp)]; rfl⟩
theorem Told.lt (h : Told w b n S) : b < w.heap.size := by obtain ⟨D, ho, _⟩ := h; exact ho.lt
theorem Told.kept {row : Option Nat} (h : Told w b n S) (hg : w.grownBy w' row) (hne : some b ≠ row) : Told w' b n S := by
  obtain ⟨D, ho, hs⟩ := h
  exact ⟨D, ho.kept hg hne, hs⟩
theorem Told.then_ (h : Told w b n S) (hb : Below w.heap.size w w') : Told w' b n S := h.kept (row := none) ⟨hb.os, hb.tape, hb.output, hb.size, fun k hk _ => hb.block k hk⟩ (by simp)
theorem Told.alloc (h : Told w b n S) (o : Obj) : Told (w.alloc o) b n S := h.kept (World.grownBy_alloc w o none) (by simp)
theorem Told.drew (h : Told w b n S) : Told w.drew b n S := by
  obtain ⟨D, ho, hs⟩ := h
  exact ⟨D, ho.drew, hs⟩
theorem Told.drewN (h : Told w b n S) (k : Nat) : Told (w.drewN k) b n S := h.kept (row := none) ⟨rfl, rfl, rfl, Nat.le_refl _, fun _ _ _ => rfl⟩ (by simp)
theorem Told.mono (h : Told w b n S) {m : Nat} (hm : n ≤ m) : Told w b m S := by
  obtain ⟨D, ho, hs⟩ := h
  exact ⟨D, ho.mono hm, hs⟩
/-- 'm[s]'. -/
theorem Told.look (h : Told w b n S) {s : ByteArray} (hs : s.size ≤ 9223372036854775807) : (Instr.lookup 41 (.map (some b)) (.string s) false).run Try.prog w = .ok (.bool (has S s)) w := by
  obtain ⟨D, ho, hd⟩ := h
  have hkey : keyOf Try.prog 9 (.string s) = some (keyLit s) := WideMaps.keyOf_string_mk Try.underlying9 (by unfold maxLen; exact hs)
  obtain ⟨v, ps, hrun, hv⟩ := ho.lookup keyedS Try.underlying41 (zeroB w) (plainElem_bool Try.underlying4 false) hkey
  obtain ⟨x, rfl, hx⟩ := plainElem_bool_inv hv
  simp only [Prod.mk.injEq] at hx
  have := hx.1
  rw [hd s] at this
  injection this with this
  injection this with this
  rw [hrun, ← this]
/-- 'm[s] = true'. -/
theorem Told.put (h : Told w b n S) (hn : n < 9223372036854775807) {s : ByteArray} (hs : s.size ≤ 9223372036854775807) :
    ∃ w', (Instr.mapUpdate 41 (.map (some b)) (.string s) (.bool true)).run Try.prog w = .ok () w' ∧ Told w' b (n + 1) (s :: S) ∧ w.grownBy w' (some b) := by
  obtain ⟨D, ho, hd⟩ := h
  have hkey : keyOf Try.prog 9 (.string s) = some (keyLit s) := WideMaps.keyOf_string_mk Try.underlying9 (by unfold maxLen; exact hs)
  obtain ⟨w', hrun, ho', hg⟩ := ho.update keyedS Try.underlying41 (by unfold maxLen; exact hn) hkey (plainElem_bool Try.underlying4 true)
  refine ⟨w', hrun, ⟨_, ho', fun t => ?_⟩, hg⟩
  by_cases e : t = s
  · subst e
    rw [atKey_put_same ho.isMap (by unfold keyLit; trivial), has_yes (by simp)]
  · rw [atKey_put_other (keyLit_ne e), hd t]
    congr 2
    cases ht : has S t
    · exact (has_no (by simp [e, has_notMem ht])).symm
    · exact (has_yes (by simp [has_mem ht])).symm
end
end Go.Proofs.Ytdjgpoenlmhonaa
