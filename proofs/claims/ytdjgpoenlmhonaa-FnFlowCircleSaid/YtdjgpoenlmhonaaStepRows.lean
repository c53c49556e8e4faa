/- Words for memory: steps in memory of the call's own, that grow by append. Condition: the lists are short. -/
import Derived.Test.YtdjgpoenlmhonaaFlowWords
import Derived.Test.YtdjgpoenlmhonaaAppend
namespace Go.Proofs.Ytdjgpoenlmhonaa
set_option linter.unusedVariables false
set_option maxRecDepth 100000
open Go.RowKit

theorem row_move {w w' : World} {base : Nat} {e : TypeId} {size : Nat} {v : Value} {n : Nat} {xs : List Value} (h : w.ownsRow base e size v n xs) (hk : ∀ k, v.ownBlock = some k → w'.heap[k]? = w.heap[k]?) : w'.ownsRow base e size v n xs := by
  obtain ⟨h1, h2⟩ := h
  refine ⟨h1, ?_⟩
  rcases h2 with h2 | ⟨g, cap, cur, hv, hg, hh, r⟩
  · exact .inl h2
  · subst hv
    exact .inr ⟨g, cap, cur, rfl, hg, by rw [hk g rfl]; exact hh, r⟩
theorem own_move {w w' : World} {base : Nat} {A : Option Addr} {c : Nat} {xs : List ByteArray} (h : OwnStrs w base A c xs) (hk : ∀ k, base ≤ k → k < w.heap.size → w'.heap[k]? = w.heap[k]?) : OwnStrs w' base A c xs :=
  ⟨row_move h.1 fun k e => hk k (h.1.lt k e).1 (h.1.lt k e).2, h.2⟩
theorem own_lt {w : World} {base : Nat} {p : Addr} {c : Nat} {xs : List ByteArray} (h : OwnStrs w base (some p) c xs) : base ≤ p.block ∧ p.block < w.heap.size := h.1.lt p.block rfl

/-- Steps in memory of the call's own; what each comes after lies in other blocks of the call's own. -/
structure OwnSteps (w : World) (lo lo2 : Nat) (SA : Option Addr) (sc : Nat) (ss : List St) : Prop where
  row : ∃ vs, w.ownsRow lo 32 3 (.slice SA ss.length sc) ss.length vs ∧
    ∀ j (h : j < ss.length), vs[j * 3]? = some (.string ss[j].name) ∧
      (∃ A' c', vs[j * 3 + 1]? = some (.slice A' ss[j].after.length c') ∧ OwnStrs w lo2 A' c' ss[j].after ∧ ∀ p q, A' = some p → SA = some q → Addr.block p ≠ Addr.block q) ∧ vs[j * 3 + 2]? = some (.bool ss[j].undo)
  lens : ∀ j (h : j < ss.length), ss[j].name.size ≤ 9223372036854775807

section
variable {w w' : World} {lo lo2 sc : Nat} {SA : Option Addr} {ss : List St}
theorem OwnSteps.sts (h : OwnSteps w lo lo2 SA sc ss) : Sts w w.heap.size SA sc ss := by
  obtain ⟨⟨vs, hr, hj⟩, hl⟩ := h
  obtain ⟨hvl, hr2⟩ := id hr
  rcases hr2 with ⟨hv, hn⟩ | ⟨g, cap, cur, hv, hg, hh, hnc, hcm, _⟩
  · injection hv with h1 h2 h3
    subst h1 h3
    have : ss = [] := List.eq_nil_of_length_eq_zero hn
    subst this
    exact Sts.nil_
  · injection hv with h1 h2 h3
    subst h1 h3
    refine ⟨hnc, by simpa [maxLen] using hcm, hl, fun hn => ⟨_, rfl, (Array.getElem?_eq_some_iff.1 hh).1, fun j h => ?_⟩⟩
    have hadd : (⟨g, 0, none⟩ : Addr).add (j * 3) = ⟨g, j * 3, none⟩ := by unfold Addr.add; split <;> simp_all
    obtain ⟨h0, ⟨A', c', h1, h2, _⟩, h3⟩ := hj j h
    rw [hadd]
    refine ⟨A', c', ?_, ?_, ?_, h2.strs⟩
    · rw [hr.cellAt _ (by omega)]; exact h0
    · rw [hr.cellAt _ (by show j * 3 + 1 < _; omega)]; exact h1
    · rw [hr.cellAt _ (by show j * 3 + 2 < _; omega)]; exact h3
theorem OwnSteps.move (h : OwnSteps w lo lo2 SA sc ss) (hk : ∀ k, k < w.heap.size → ((∃ q, SA = some q ∧ Addr.block q = k) ∨ lo2 ≤ k) → w'.heap[k]? = w.heap[k]?) : OwnSteps w' lo lo2 SA sc ss := by
  obtain ⟨⟨vs, hr, hj⟩, hl⟩ := h
  refine ⟨⟨vs, row_move hr fun k e => ?_, fun j h => ?_⟩, hl⟩
  · refine hk k (hr.lt k e).2 (.inl ?_)
    rw [ownBlock_slice] at e
    cases hS : SA with
    | none => rw [hS] at e; cases e
    | some q => rw [hS] at e; injection e with e; exact ⟨q, rfl, e⟩
  · obtain ⟨h0, ⟨A', c', h1, h2, h4⟩, h3⟩ := hj j h
    exact ⟨h0, ⟨A', c', h1, own_move h2 fun k e1 e2 => hk k e2 (.inr e1), h4⟩, h3⟩
theorem OwnSteps.blocks (h : OwnSteps w lo lo2 SA sc ss) : ∀ q, SA = some q → lo ≤ q.block ∧ q.block < w.heap.size := by
  intro q e
  obtain ⟨⟨vs, hr, _⟩, _⟩ := h
  exact hr.lt q.block (by rw [ownBlock_slice, e]; rfl)
theorem OwnSteps.grown {g : Nat} (h : OwnSteps w lo lo2 SA sc ss) (hg : w.grownBy w' (some g)) (h1 : g < lo) (h2 : g < lo2) : OwnSteps w' lo lo2 SA sc ss :=
  h.move fun k hk hor => hg.block k hk (fun e => by
    injection e with e
    rcases hor with ⟨q, hq, hqk⟩ | hor
    · have := h.blocks q hq; omega
    · omega)
theorem OwnSteps.below (h : OwnSteps w lo lo2 SA sc ss) (hb : Below w.heap.size w w') : OwnSteps w' lo lo2 SA sc ss := h.move fun k hk _ => hb.block k hk
theorem OwnSteps.alloc (h : OwnSteps w lo lo2 SA sc ss) (o : Obj) : OwnSteps (w.alloc o) lo lo2 SA sc ss := h.below ((Below.refl _ _).alloc (Nat.le_refl _) _)
theorem OwnSteps.drew (h : OwnSteps w lo lo2 SA sc ss) : OwnSteps w.drew lo lo2 SA sc ss := h.move fun _ _ _ => rfl
theorem OwnSteps.set (h : OwnSteps w lo lo2 SA sc ss) {p : Addr} (u : Value) (h1 : p.block < lo2) (h2 : ∀ q, SA = some q → q.block ≠ p.block) : OwnSteps (w.setCell p u) lo lo2 SA sc ss :=
  h.move fun k hk hor => Below.heap_setCell _ _ _ _ (fun e => by
    rcases hor with ⟨q, hq, hqk⟩ | hor
    · exact h2 q hq (hqk.trans e)
    · omega)
theorem OwnSteps.base_ {lo' lo2' : Nat} (h : OwnSteps w lo lo2 SA sc ss) (h1 : lo' ≤ lo) (h2 : lo2' ≤ lo2) : OwnSteps w lo' lo2' SA sc ss := by
  obtain ⟨⟨vs, hr, hj⟩, hl⟩ := h
  refine ⟨⟨vs, own_base hr h1, fun j h => ?_⟩, hl⟩
  obtain ⟨h0, ⟨A', c', h1, h2', h4⟩, h3⟩ := hj j h
  exact ⟨h0, ⟨A', c', h1, h2'.base_ h2, h4⟩, h3⟩
theorem OwnSteps.lit0 (w : World) (lo2 : Nat) : OwnSteps (w.alloc (.cells #[] 32)) w.heap.size lo2 (some ⟨w.heap.size, 0, none⟩) 0 [] :=
  ⟨⟨[], World.ownsRow_lit w #[] 0 (Nat.le_refl _) (by simp only [maxLen]; omega) rfl, fun j h => absurd h (by simp)⟩, fun j h => absurd h (by simp)⟩
end

theorem stepInfoR : (Try.prog.info? 32).map (fun i => (i.zero, i.size, i.bytes)) = some (some (.agg #[.string ⟨#[]⟩, .slice none 0 0, .bool false]), 3, 48) := by kernel_rfl

/-- What is behind an append of one step. -/
structure StepAppended (w w' : World) (lo lo2 : Nat) (SA SA' : Option Addr) (sc' : Nat) (ss : List St) (t : St) : Prop where
  own : OwnSteps w' lo lo2 SA' sc' (ss ++ [t])
  grown : w.grownBy w' (SA.map (·.block))
  at_ : SA'.map (·.block) = SA.map (·.block) ∨ SA'.map (·.block) = some w.heap.size

theorem wp_append_step (w : World) {o : Oper} {a : Act} {K : Act → World → Prop} {Q : Exit → Act → World → Prop} (s x : Operand)
    (ho : o.op = .call { callee := .builtin .append, args := #[s, x], argTypes := #[23, 23] })
    (lo lo2 : Nat) (SA : Option Addr) (sc : Nat) (ss : List St) (hs : a.eval s = .slice SA ss.length sc) (hown : OwnSteps w lo lo2 SA sc ss)
    (ad : Addr) (m : Nat) (t : St) (A' : Option Addr) (c' : Nat) (hx : a.eval x = .slice (some ad) 1 m)
    (hc : w.cell? (ad.add 0) = some (.string t.name) ∧ w.cell? (ad.add 1) = some (.slice A' t.after.length c') ∧ w.cell? (ad.add 2) = some (.bool t.undo))
    (ho' : OwnStrs w lo2 A' c' t.after) (hne : ∀ p q, A' = some p → SA = some q → Addr.block p ≠ Addr.block q) (hnm : t.name.size ≤ 9223372036854775807)
    (hl : ss.length ≤ 2000000) (hbase : lo ≤ w.heap.size)
    (h : ∀ SA' sc' w', StepAppended w w' lo lo2 SA SA' sc' ss t → K (a.put o.dst (.slice SA' (ss.length + 1) sc')) w') : o.wp Try.prog a w K Q := by
  obtain ⟨⟨vs, hr, hj⟩, hlens⟩ := hown
  obtain ⟨i0, hi, hz0, hz1, hz2⟩ := info_parts stepInfoR
  obtain ⟨v', w', hrun, hown', hg, _, hat⟩ := run_append_own_at (P := Try.prog) w lo 23 o.type 32 i0 _ 3 48 Try.underlying23 hi hz0 hz1 hz2 rfl (by decide) (.slice SA ss.length sc) ss.length vs hr
    ad 1 m [.string t.name, .slice A' t.after.length c', .bool t.undo] rfl (by
      intro j u hj
      match j with
      | 0 => simp at hj; subst hj; exact hc.1
      | 1 => simp at hj; subst hj; exact hc.2.1
      | 2 => simp at hj; subst hj; exact hc.2.2
      | j + 3 => simp at hj) (by
      intro u hu
      simp at hu
      rcases hu with rfl | rfl | rfl <;> rfl) (by simp only [maxLen]; omega) (by omega) hbase
  have hv' : ∃ g cap, v' = .slice (some ⟨g, 0, none⟩) (ss.length + 1) cap := by
    rcases hown'.2 with ⟨_, hn⟩ | ⟨g, cap, cur, hv, _⟩
    · omega
    · exact ⟨g, cap, hv⟩
  obtain ⟨g, cap, rfl⟩ := hv'
  rw [ownBlock_slice] at hg
  rw [ownBlock_slice, ownBlock_slice] at hat
  have hlen : vs.length = ss.length * 3 := hr.1
  have e1 : (ss ++ [t]).length = ss.length + 1 := by simp
  unfold Oper.wp execOp
  simp only [ho, resolve, invoke, builtin, Sem.run_bind, Sem.run_pure, Result.andThen_ok, List.map_toArray, List.map_cons, List.map_nil, hs, hx, hrun]
  have hneq : ∀ (B : Option Addr) cc xs, OwnStrs w lo2 B cc xs → (∀ p q, B = some p → SA = some q → Addr.block p ≠ Addr.block q) → ∀ p q, B = some p → some (⟨g, 0, none⟩ : Addr) = some q → Addr.block p ≠ Addr.block q := by
    intro B cc xs hB hBn p q hp hq
    injection hq with hq
    subst hp hq
    have hpb := own_lt hB
    rcases hat with hat | hat
    · cases SA with
      | none => cases hat
      | some q =>
        have hat' : some g = some q.block := hat
        injection hat' with hat'
        rw [show Addr.block ⟨g, 0, none⟩ = g from rfl, hat']
        exact hBn p q rfl rfl
    · have hat' : some g = some w.heap.size := hat
      injection hat' with hat'
      show p.block ≠ g
      omega
  have hmv : ∀ (B : Option Addr) cc xs, OwnStrs w lo2 B cc xs → (∀ p q, B = some p → SA = some q → Addr.block p ≠ Addr.block q) → OwnStrs w' lo2 B cc xs := by
    intro B cc xs hB hBn
    refine ⟨hB.1.kept hg ?_, hB.2⟩
    cases B with
    | none => exact .inl rfl
    | some p =>
      refine .inr fun e => ?_
      have e' : some p.block = SA.map (·.block) := e
      cases SA with
      | none => cases e'
      | some q => injection e' with e'; exact hBn p q rfl rfl e'
  refine h (some ⟨g, 0, none⟩) cap w' ⟨⟨⟨vs ++ [.string t.name, .slice A' t.after.length c', .bool t.undo], by rw [e1]; exact hown', fun j hj' => ?_⟩, fun j hj' => ?_⟩, hg, hat⟩
  · by_cases hjl : j < ss.length
    · obtain ⟨h0, ⟨Aj, cj, h1, h2, h4⟩, h3⟩ := hj j hjl
      have eg : (ss ++ [t])[j] = ss[j] := List.getElem_append_left hjl
      rw [eg, List.getElem?_append_left (by omega), List.getElem?_append_left (by omega), List.getElem?_append_left (by omega)]
      exact ⟨h0, ⟨Aj, cj, h1, hmv _ _ _ h2 h4, hneq _ _ _ h2 h4⟩, h3⟩
    · obtain rfl : j = ss.length := by simp at hj'; omega
      have eg : (ss ++ [t])[ss.length] = t := by simp
      rw [eg, List.getElem?_append_right (by omega), List.getElem?_append_right (by omega), List.getElem?_append_right (by omega)]
      rw [hlen, show ss.length * 3 - ss.length * 3 = 0 from by omega, show ss.length * 3 + 1 - ss.length * 3 = 1 from by omega, show ss.length * 3 + 2 - ss.length * 3 = 2 from by omega]
      exact ⟨rfl, ⟨A', c', rfl, hmv _ _ _ ho' hne, hneq _ _ _ ho' hne⟩, rfl⟩
  · by_cases hjl : j < ss.length
    · rw [List.getElem_append_left hjl]; exact hlens j hjl
    · obtain rfl : j = ss.length := by simp at hj'; omega
      have eg : (ss ++ [t])[ss.length] = t := by simp
      rw [eg]; exact hnm

theorem wpList_append_step (w : World) {ops : Array Oper} {rest : List Oper} {o : Oper} {a : Act} {Q : Exit → Act → World → Prop} (hgd : o.guard = none) (s x : Operand)
    (ho : o.op = .call { callee := .builtin .append, args := #[s, x], argTypes := #[23, 23] })
    (lo lo2 : Nat) (SA : Option Addr) (sc : Nat) (ss : List St) (hs : a.eval s = .slice SA ss.length sc) (hown : OwnSteps w lo lo2 SA sc ss)
    (ad : Addr) (m : Nat) (t : St) (A' : Option Addr) (c' : Nat) (hx : a.eval x = .slice (some ad) 1 m)
    (hc : w.cell? (ad.add 0) = some (.string t.name) ∧ w.cell? (ad.add 1) = some (.slice A' t.after.length c') ∧ w.cell? (ad.add 2) = some (.bool t.undo))
    (ho' : OwnStrs w lo2 A' c' t.after) (hne : ∀ p q, A' = some p → SA = some q → Addr.block p ≠ Addr.block q) (hnm : t.name.size ≤ 9223372036854775807)
    (hl : ss.length ≤ 2000000) (hbase : lo ≤ w.heap.size)
    (h : ∀ SA' sc' w', StepAppended w w' lo lo2 SA SA' sc' ss t → wpList Try.prog ops Q rest (a.put o.dst (.slice SA' (ss.length + 1) sc')) w') : wpList Try.prog ops Q (o :: rest) a w :=
  wpList_plain hgd fun _ hK => wp_append_step w s x ho lo lo2 SA sc ss hs hown ad m t A' c' hx hc ho' hne hnm hl hbase fun SA' sc' w' h1 => hK _ _ (h SA' sc' w' h1)

/-- The first step's list is another one. -/
theorem OwnSteps.after0 {w : World} {lo lo2 sc : Nat} {q : Addr} {t : St} {ss : List St} (h : OwnSteps w lo lo2 (some q) sc (t :: ss)) {A' : Option Addr} {c' : Nat} {xs : List ByteArray} (ho : OwnStrs w lo2 A' c' xs) (hne : ∀ p, A' = some p → p.block ≠ q.block) :
    q = ⟨q.block, 0, none⟩ ∧ (∃ u, w.cell? ⟨q.block, 1, none⟩ = some u) ∧ w.frozen? ⟨q.block, 1, none⟩ = false ∧
    OwnSteps (w.setCell ⟨q.block, 1, none⟩ (.slice A' xs.length c')) lo lo2 (some q) sc ({ t with after := xs } :: ss) := by
  obtain ⟨⟨vs, hr, hj⟩, hlens⟩ := h
  have hq : q = ⟨q.block, 0, none⟩ := by
    rcases hr.2 with ⟨hv, _⟩ | ⟨g, cap, cur, hv, _⟩
    · cases hv
    · injection hv with h1 _ _; injection h1 with h1; rw [h1]
  obtain ⟨b, rfl⟩ : ∃ b, q = ⟨b, 0, none⟩ := ⟨_, hq⟩
  have hl3 : vs.length = (t :: ss).length * 3 := hr.1
  refine ⟨rfl, ⟨vs[1]'(by simp at hl3; omega), ?_⟩, hr.frozenAt 1, ?_⟩
  · rw [hr.cellAt 1 (by simp; omega)]; exact List.getElem?_eq_getElem _
  · obtain ⟨hs, hgs⟩ := hr.stored 1 (.slice A' xs.length c')
    refine ⟨⟨vs.set 1 (.slice A' xs.length c'), hs, fun j hj' => ?_⟩, fun j hj' => ?_⟩
    · have hmv : ∀ (B : Option Addr) cc ys, OwnStrs w lo2 B cc ys → (∀ p, B = some p → Addr.block p ≠ b) → OwnStrs (w.setCell ⟨b, 1, none⟩ (.slice A' xs.length c')) lo2 B cc ys := by
        intro B cc ys hB hn
        refine ⟨hB.1.kept hgs ?_, hB.2⟩
        cases B with
        | none => exact .inl rfl
        | some p =>
          refine .inr fun e => ?_
          have e' : some p.block = some b := e
          injection e' with e'
          exact hn p rfl e'
      cases j with
      | zero =>
        obtain ⟨h0, _, h3⟩ := hj 0 (by simp)
        refine ⟨?_, ⟨A', c', ?_, hmv _ _ _ ho hne, fun p q hp hq => by injection hq with hq; subst hq; exact hne p hp⟩, ?_⟩
        · rw [List.getElem?_set_ne (by omega)]; exact h0
        · rw [List.getElem?_set_self (by simp at hl3; omega)]; rfl
        · rw [List.getElem?_set_ne (by omega)]; exact h3
      | succ j =>
        obtain ⟨h0, ⟨Aj, cj, h1, h2, h4⟩, h3⟩ := hj (j + 1) (by simpa using hj')
        refine ⟨?_, ⟨Aj, cj, ?_, hmv _ _ _ h2 (fun p hp => h4 p _ hp rfl), h4⟩, ?_⟩
        · rw [List.getElem?_set_ne (by omega)]; exact h0
        · rw [List.getElem?_set_ne (by omega)]; exact h1
        · rw [List.getElem?_set_ne (by omega)]; exact h3
    · cases j with
      | zero => exact hlens 0 (by simp)
      | succ j => exact hlens (j + 1) (by simpa using hj')
end Go.Proofs.Ytdjgpoenlmhonaa
