/- Contracts of markStepS, markFlow: what a flow of the call's own holds turns, and nothing else. Condition: sizes as the laws ask them. -/
import Derived.Test.YtcdccdgegmnhnaaMarks
namespace Go.Proofs.Ytcdccdgegmnhnaa
set_option linter.unusedVariables false
set_option maxRecDepth 100000
open Go.RowKit Go.Deep

/-- Of what lay there, nothing has turned but blocks from lo on that lie below hi. -/
structure Betw (lo hi : Nat) (w w' : World) : Prop where
  os : w'.os = w.os
  tape : w'.tape = w.tape
  output : w'.output = w.output
  size : w.heap.size ≤ w'.heap.size
  block : ∀ k, k < w.heap.size → k < lo ∨ hi ≤ k → w'.heap[k]? = w.heap[k]?
section
variable {lo hi : Nat} {w a b : World}
theorem Betw.refl (lo hi : Nat) (w : World) : Betw lo hi w w := ⟨rfl, rfl, rfl, Nat.le_refl _, fun _ _ _ => rfl⟩
theorem Betw.below_ (h : Betw lo hi w a) (k : Below a.heap.size a b) : Betw lo hi w b :=
  ⟨k.os.trans h.os, k.tape.trans h.tape, k.output.trans h.output, Nat.le_trans h.size k.size, fun i hi' hne => (k.block i (by have := h.size; omega)).trans (h.block i hi' hne)⟩
theorem Betw.set (h : Betw lo hi w a) {p : Addr} (h1 : lo ≤ p.block) (h2 : p.block < hi) (u : Value) : Betw lo hi w (a.setCell p u) :=
  ⟨h.os, h.tape, h.output, by simp [World.setCell]; exact h.size, fun i hi' hne => (Below.heap_setCell a p u i (fun e => by omega)).trans (h.block i hi' hne)⟩
theorem Betw.grown (h : Betw lo hi w a) {row : Option Nat} (hg : a.grownBy b row) (hr : ∀ k, row = some k → lo ≤ k ∧ k < hi) : Betw lo hi w b :=
  ⟨hg.os.trans h.os, hg.tape.trans h.tape, hg.output.trans h.output, Nat.le_trans h.size hg.size, fun i hi' hne =>
    (hg.block i (by have := h.size; omega) (fun e => by have := hr i e.symm; omega)).trans (h.block i hi' hne)⟩
theorem Betw.trans (h : Betw lo hi w a) (k : Betw lo hi a b) : Betw lo hi w b :=
  ⟨k.os.trans h.os, k.tape.trans h.tape, k.output.trans h.output, Nat.le_trans h.size k.size, fun i hi' hne => (k.block i (by have := h.size; omega) hne).trans (h.block i hi' hne)⟩
theorem Betw.more {lo' hi' : Nat} (h : Betw lo hi w a) (h1 : lo' ≤ lo) (h2 : hi ≤ hi') : Betw lo' hi' w a :=
  ⟨h.os, h.tape, h.output, h.size, fun i hi' hne => h.block i hi' (by omega)⟩
theorem Betw.low (h : Betw lo hi w a) (hl : lo ≤ w.heap.size) : Below lo w a :=
  ⟨h.os, h.tape, h.output, h.size, fun k hk => h.block k (by omega) (.inl hk)⟩
theorem Betw.own {base : Nat} {A : Option Addr} {c : Nat} {xs : List ByteArray} (h : Betw lo hi w a) (ho : OwnStrs w base A c xs) (hb : hi ≤ base) : OwnStrs a base A c xs := by
  obtain ⟨⟨h1, h2⟩, hx⟩ := ho
  refine ⟨⟨h1, ?_⟩, hx⟩
  rcases h2 with h2 | ⟨g, cap, cur, hv, hg, hh, r⟩
  · exact .inl h2
  · exact .inr ⟨g, cap, cur, hv, hg, by rw [h.block g (Array.getElem?_eq_some_iff.1 hh).1 (.inr (by omega))]; exact hh, r⟩
theorem own_kept {base : Nat} {A : Option Addr} {c : Nat} {xs : List ByteArray} {row : Option Nat} (ho : OwnStrs w base A c xs) (hg : w.grownBy a row) (hne : ∀ p, A = some p → row ≠ some p.block) : OwnStrs a base A c xs :=
  ⟨ho.1.kept hg (by
    cases A with
    | none => exact .inl rfl
    | some p => exact .inr fun e => hne p rfl e.symm), ho.2⟩
end

/-- How many names the first steps come after. -/
def cntA (ss : List St) (j : Nat) : Nat := ((ss.take j).map fun s => s.after.length).sum
theorem cntA_succ {ss : List St} {j : Nat} (h : j < ss.length) : cntA ss (j + 1) = cntA ss j + ss[j].after.length := by
  unfold cntA
  rw [List.take_succ_eq_append_getElem h]
  simp only [List.map_append, List.map_cons, List.map_nil, List.sum_append, List.sum_cons, List.sum_nil]
  omega
theorem cntA_le (ss : List St) (j : Nat) : cntA ss j ≤ totSt ss := by
  induction ss generalizing j with
  | nil => simp [cntA]
  | cons x r ih =>
    cases j with
    | zero => simp [cntA]
    | succ j =>
      have h1 := ih j
      have h2 := tot_len x.after
      unfold cntA at h1 ⊢
      simp only [List.take_succ_cons, List.map_cons, List.sum_cons, totSt]
      omega

end Go.Proofs.Ytcdccdgegmnhnaa
