/- Words for memory: a row of steps of the call's own whose names to come after lie elsewhere; appending all steps of a list to it. Condition: the lists are short. -/
import Derived.Test.YtdjgpoenlmhonaaDrawFlow
namespace Go.Proofs.Ytdjgpoenlmhonaa
set_option linter.unusedVariables false
set_option maxRecDepth 100000
open Go.RowKit

theorem add_step (ad : Addr) (m k : Nat) (hk : 0 < k) : (⟨(ad.add m).block, (ad.add m).off + k, none⟩ : Addr) = ad.add (m + k) := by
  unfold Addr.add
  rw [if_neg (show ¬ m + k = 0 by omega)]
  by_cases h : m = 0
  · subst h; rw [if_pos rfl, Nat.zero_add]
  · rw [if_neg h, Nat.add_assoc]

/-- A row of steps of the call's own; what they come after lies below block B. -/
structure RowSts (w : World) (lo B : Nat) (SA : Option Addr) (sc : Nat) (ss : List St) : Prop where
  row : ∃ vs, w.ownsRow lo 32 3 (.slice SA ss.length sc) ss.length vs ∧
    ∀ j (h : j < ss.length), vs[j * 3]? = some (.string ss[j].name) ∧ (∃ A' c', vs[j * 3 + 1]? = some (.slice A' ss[j].after.length c') ∧ Strs w B A' c' ss[j].after) ∧ vs[j * 3 + 2]? = some (.bool ss[j].undo)
  lens : ∀ j (h : j < ss.length), ss[j].name.size ≤ 9223372036854775807
section
variable {w w' : World} {lo B sc : Nat} {SA : Option Addr} {ss : List St}
theorem RowSts.form (h : RowSts w lo B SA sc ss) (h0 : 0 < ss.length) : ∃ b, SA = some ⟨b, 0, none⟩ ∧ lo ≤ b ∧ b < w.heap.size ∧ ss.length ≤ sc ∧ sc ≤ 9223372036854775807 := by
  obtain ⟨⟨vs, hr, _⟩, _⟩ := h
  rcases hr.2 with ⟨_, hn⟩ | ⟨g, cap, cur, hv, hg, hh, hnc, hcm, _⟩
  · omega
  · injection hv with h1 _ h3
    subst h1 h3
    exact ⟨g, rfl, hg, (Array.getElem?_eq_some_iff.1 hh).1, hnc, by simpa [maxLen] using hcm⟩
theorem RowSts.cells {b : Nat} (h : RowSts w lo B (some ⟨b, 0, none⟩) sc ss) : ∀ j (hj : j < ss.length), w.cell? ⟨b, j * 3, none⟩ = some (.string ss[j].name) ∧
    (∃ A' c', w.cell? ⟨b, j * 3 + 1, none⟩ = some (.slice A' ss[j].after.length c') ∧ Strs w B A' c' ss[j].after) ∧ w.cell? ⟨b, j * 3 + 2, none⟩ = some (.bool ss[j].undo) ∧ ∀ i, w.frozen? ⟨b, i, none⟩ = false := by
  intro j hj
  obtain ⟨⟨vs, hr, hc⟩, _⟩ := h
  obtain ⟨h0, ⟨A', c', h1, h2⟩, h3⟩ := hc j hj
  exact ⟨by rw [hr.cellAt _ (by omega)]; exact h0, ⟨A', c', by rw [hr.cellAt _ (by omega)]; exact h1, h2⟩, by rw [hr.cellAt _ (by omega)]; exact h3, fun i => hr.frozenAt i⟩
theorem RowSts.sts (h : RowSts w lo B SA sc ss) (hB : B ≤ w.heap.size) (h0 : 0 < ss.length) : Sts w w.heap.size SA sc ss := by
  obtain ⟨b, rfl, hb, hbl, hl, hc⟩ := h.form h0
  refine ⟨hl, hc, h.lens, fun _ => ⟨_, rfl, hbl, fun j hj => ?_⟩⟩
  have hadd : (⟨b, 0, none⟩ : Addr).add (j * 3) = ⟨b, j * 3, none⟩ := by unfold Addr.add; split <;> simp_all
  obtain ⟨e0, ⟨A', c', e1, e2⟩, e3, _⟩ := h.cells j hj
  rw [hadd]
  exact ⟨A', c', e0, e1, e3, e2.more hB⟩
theorem RowSts.move (h : RowSts w lo B SA sc ss) (hrow : ∀ q, SA = some q → w'.heap[q.block]? = w.heap[q.block]?) (hlow : ∀ k, k < B → w'.heap[k]? = w.heap[k]?) : RowSts w' lo B SA sc ss := by
  obtain ⟨⟨vs, hr, hc⟩, hl⟩ := h
  refine ⟨⟨vs, row_move hr fun k e => ?_, fun j hj => ?_⟩, hl⟩
  · rw [ownBlock_slice] at e
    cases SA with
    | none => cases e
    | some q => injection e with e; subst e; exact hrow q rfl
  · obtain ⟨h0, ⟨A', c', h1, h2⟩, h3⟩ := hc j hj
    exact ⟨h0, ⟨A', c', h1, h2.keep fun p hp => World.cell?_of_block (w := w) (hlow p.block hp)⟩, h3⟩
theorem RowSts.below_ (h : RowSts w lo B SA sc ss) (hb : Below w.heap.size w w') (hB : B ≤ w.heap.size) : RowSts w' lo B SA sc ss :=
  h.move (fun q e => by
    obtain ⟨⟨vs, hr, _⟩, _⟩ := h
    exact hb.block _ (hr.lt q.block (by rw [ownBlock_slice, e]; rfl)).2) fun k hk => hb.block k (by omega)
theorem RowSts.alloc (h : RowSts w lo B SA sc ss) (hB : B ≤ w.heap.size) (o : Obj) : RowSts (w.alloc o) lo B SA sc ss := h.below_ ((Below.refl _ _).alloc (Nat.le_refl _) _) hB
theorem RowSts.drew (h : RowSts w lo B SA sc ss) : RowSts w.drew lo B SA sc ss := h.move (fun _ _ => rfl) fun _ _ => rfl
theorem RowSts.lit0 (w : World) (n : Nat) (hn : w.heap.size = n) (B : Nat) : RowSts (w.alloc (.cells #[] 32)) n B (some ⟨n, 0, none⟩) 0 [] := by
  subst hn
  exact ⟨⟨[], World.ownsRow_lit w #[] 0 (Nat.le_refl _) (by simp only [maxLen]; omega) rfl, fun j h => absurd h (by simp)⟩, fun j h => absurd h (by simp)⟩
theorem RowSts.base_ {lo' : Nat} (h : RowSts w lo B SA sc ss) (h1 : lo' ≤ lo) : RowSts w lo' B SA sc ss := by
  obtain ⟨⟨vs, hr, hc⟩, hl⟩ := h
  exact ⟨⟨vs, own_base hr h1, hc⟩, hl⟩
theorem RowSts.lit1 (w : World) (n : Nat) (hn : w.heap.size = n) (B : Nat) (s : St) (A' : Option Addr) (c' : Nat) (hs : Strs w B A' c' s.after) (hB : B ≤ w.heap.size) (hsz : s.name.size ≤ 9223372036854775807) :
    RowSts (w.alloc (.cells #[.string s.name, .slice A' s.after.length c', .bool s.undo] 32)) n B (some ⟨n, 0, none⟩) 1 [s] := by
  subst hn
  refine ⟨⟨[.string s.name, .slice A' s.after.length c', .bool s.undo], World.ownsRow_lit w #[.string s.name, .slice A' s.after.length c', .bool s.undo] 1 (Nat.le_refl _) (by simp only [maxLen]; omega) rfl, fun j h => ?_⟩, fun j h => ?_⟩
  · have : j = 0 := by simp at h; omega
    subst this
    exact ⟨rfl, ⟨A', c', rfl, hs.alloc hB _⟩, rfl⟩
  · have : j = 0 := by simp at h; omega
    subst this
    exact hsz

theorem Sts.flat (h : Sts w B SA sc ss) (h0 : 0 < ss.length) : ∃ (ad : Addr) (news : List Value), SA = some ad ∧ ad.block < B ∧ news.length = ss.length * 3 ∧ (∀ j u, news[j]? = some u → w.cell? (ad.add j) = some u) ∧ (∀ u ∈ news, u.oneCell' = true) ∧
    ∀ j (hj : j < ss.length), news[j * 3]? = some (.string ss[j].name) ∧ (∃ A' c', news[j * 3 + 1]? = some (.slice A' ss[j].after.length c') ∧ Strs w B A' c' ss[j].after) ∧ news[j * 3 + 2]? = some (.bool ss[j].undo) := by
  obtain ⟨ad, e, hb, hc⟩ := h.cells h0
  have hall : ∀ j (hj : j < ss.length), w.cell? (ad.add (j * 3)) = some (.string ss[j].name) ∧ (∃ A' c', w.cell? (ad.add (j * 3 + 1)) = some (.slice A' ss[j].after.length c') ∧ Strs w B A' c' ss[j].after) ∧ w.cell? (ad.add (j * 3 + 2)) = some (.bool ss[j].undo) := by
    intro j hj
    obtain ⟨A', c', e0, e1, e2, e3⟩ := hc j hj
    rw [add_step _ _ 1 (by omega)] at e1
    rw [add_step _ _ 2 (by omega)] at e2
    exact ⟨e0, ⟨A', c', e1, e3⟩, e2⟩
  have hget : ∀ i, i < ss.length * 3 → ((List.range (ss.length * 3)).map fun j => (w.cell? (ad.add j)).getD undef)[i]? = some ((w.cell? (ad.add i)).getD undef) := by
    intro i hi
    rw [List.getElem?_map, List.getElem?_range hi]; rfl
  have hmod : ∀ i, i < ss.length * 3 → ∃ u, w.cell? (ad.add i) = some u ∧ u.oneCell' = true := by
    intro i hi
    have hj : i / 3 < ss.length := by omega
    obtain ⟨e0, ⟨A', c', e1, _⟩, e2⟩ := hall (i / 3) hj
    rcases (show i = i / 3 * 3 ∨ i = i / 3 * 3 + 1 ∨ i = i / 3 * 3 + 2 by omega) with hi3 | hi3 | hi3
    · rw [hi3]; exact ⟨_, e0, rfl⟩
    · rw [hi3]; exact ⟨_, e1, rfl⟩
    · rw [hi3]; exact ⟨_, e2, rfl⟩
  refine ⟨ad, (List.range (ss.length * 3)).map fun j => (w.cell? (ad.add j)).getD undef, e, hb, by simp, fun j u hju => ?_, fun u hu => ?_, fun j hj => ?_⟩
  · have hj : j < ss.length * 3 := by
      have := (List.getElem?_eq_some_iff.1 hju).1
      simpa using this
    obtain ⟨u', hu', _⟩ := hmod j hj
    rw [hget j hj, hu'] at hju
    rw [hu']; exact hju
  · obtain ⟨j, hj, rfl⟩ := List.mem_map.1 hu
    obtain ⟨u', hu', h1⟩ := hmod j (List.mem_range.1 hj)
    rw [hu']; exact h1
  · obtain ⟨e0, ⟨A', c', e1, e3⟩, e2⟩ := hall j hj
    exact ⟨by rw [hget _ (by omega), e0]; rfl, ⟨A', c', by rw [hget _ (by omega), e1]; rfl, e3⟩, by rw [hget _ (by omega), e2]; rfl⟩
end

/-- What is behind an append of steps. -/
structure RowAppended (w w' : World) (lo B : Nat) (SA SA' : Option Addr) (sc' : Nat) (ss : List St) : Prop where
  own : RowSts w' lo B SA' sc' ss
  grown : w.grownBy w' (SA.map (·.block))
  at_ : SA'.map (·.block) = SA.map (·.block) ∨ SA'.map (·.block) = some w.heap.size

theorem wp_append_row (w : World) {o : Oper} {a : Act} {K : Act → World → Prop} {Q : Exit → Act → World → Prop} (s x : Operand)
    (ho : o.op = .call { callee := .builtin .append, args := #[s, x], argTypes := #[23, 23] })
    (lo B : Nat) (SA : Option Addr) (sc n : Nat) (xs : List St) (hs : a.eval s = .slice SA n sc) (hn : Hid (xs.length = n)) (hown : RowSts w lo B SA sc xs) (hBl : B ≤ lo)
    (A2 : Option Addr) (c2 m : Nat) (ys : List St) (hx : a.eval x = .slice A2 m c2) (hm : Hid (ys.length = m)) (hys : Sts w B A2 c2 ys) (hy0 : 0 < ys.length)
    (hl : xs.length + ys.length ≤ 1000000) (hbase : lo ≤ w.heap.size)
    (h : ∀ SA' sc' w', RowAppended w w' lo B SA SA' sc' (xs ++ ys) → K (a.put o.dst (.slice SA' (n + m) sc')) w') : o.wp Try.prog a w K Q := by
  obtain rfl := hn.out
  obtain rfl := hm.out
  obtain ⟨⟨vs, hr, hj⟩, hlens⟩ := hown
  obtain ⟨ad, news, rfl, hab, hnl, hnc, hn1, hnj⟩ := hys.flat hy0
  obtain ⟨i0, hi, hz0, hz1, hz2⟩ := info_parts stepInfoR
  obtain ⟨v', w', hrun, hown', hg, _, hat⟩ := run_append_own_at (P := Try.prog) w lo 23 o.type 32 i0 _ 3 48 Try.underlying23 hi hz0 hz1 hz2 rfl (by decide) (.slice SA xs.length sc) xs.length vs hr
    ad ys.length c2 news hnl hnc hn1 (by simp only [maxLen]; omega) (by omega) hbase
  have hv' : ∃ g cap, v' = .slice (some ⟨g, 0, none⟩) (xs.length + ys.length) cap := by
    rcases hown'.2 with ⟨_, hn⟩ | ⟨g, cap, cur, hv, _⟩
    · omega
    · exact ⟨g, cap, hv⟩
  obtain ⟨g, cap, rfl⟩ := hv'
  rw [ownBlock_slice] at hg
  rw [ownBlock_slice, ownBlock_slice] at hat
  have hlen : vs.length = xs.length * 3 := hr.1
  unfold Oper.wp execOp
  simp only [ho, resolve, invoke, builtin, Sem.run_bind, Sem.run_pure, Result.andThen_ok, List.map_toArray, List.map_cons, List.map_nil, hs, hx, hrun]
  have hlow : ∀ k, k < B → w'.heap[k]? = w.heap[k]? := fun k hk => hg.block k (by omega) (by
    intro e
    cases SA with
    | none => cases e
    | some q =>
      injection e with e
      have e : k = q.block := e
      have := (hr.lt q.block (by rw [ownBlock_slice]; rfl)).1
      omega)
  have hmv : ∀ {A' c' zs}, Strs w B A' c' zs → Strs w' B A' c' zs := fun hz => hz.keep fun p hp => World.cell?_of_block (w := w) (hlow p.block hp)
  refine h _ _ w' ⟨⟨⟨vs ++ news, by rw [List.length_append]; exact hown', fun j hjl => ?_⟩, fun j hjl => ?_⟩, hg, hat⟩
  · rw [List.length_append] at hjl
    by_cases hc : j < xs.length
    · obtain ⟨h0, ⟨A', c', h1, h2⟩, h3⟩ := hj j hc
      rw [List.getElem_append_left hc, List.getElem?_append_left (by omega), List.getElem?_append_left (by omega), List.getElem?_append_left (by omega)]
      exact ⟨h0, ⟨A', c', h1, hmv h2⟩, h3⟩
    · obtain ⟨h0, ⟨A', c', h1, h2⟩, h3⟩ := hnj (j - xs.length) (by omega)
      rw [List.getElem_append_right (by omega), List.getElem?_append_right (by omega), List.getElem?_append_right (by omega), List.getElem?_append_right (by omega), hlen,
        show j * 3 - xs.length * 3 = (j - xs.length) * 3 by omega, show j * 3 + 1 - xs.length * 3 = (j - xs.length) * 3 + 1 by omega, show j * 3 + 2 - xs.length * 3 = (j - xs.length) * 3 + 2 by omega]
      exact ⟨h0, ⟨A', c', h1, hmv h2⟩, h3⟩
  · rw [List.length_append] at hjl
    by_cases hc : j < xs.length
    · rw [List.getElem_append_left hc]; exact hlens j hc
    · rw [List.getElem_append_right (by omega)]; exact hys.lens _ _

theorem step_append_row (w : World) {ops : Array Oper} {o : Oper} {a : Act} {K : Act → World → Prop} {Q : Exit → Act → World → Prop} {E : Prop} (hgd : o.guard = none) (s x : Operand)
    (ho : o.op = .call { callee := .builtin .append, args := #[s, x], argTypes := #[23, 23] })
    (lo B : Nat) (SA : Option Addr) (sc n : Nat) (xs : List St) (hs : a.eval s = .slice SA n sc) (hn : Hid (xs.length = n)) (hown : RowSts w lo B SA sc xs) (hBl : B ≤ lo)
    (A2 : Option Addr) (c2 m : Nat) (ys : List St) (hx : a.eval x = .slice A2 m c2) (hm : Hid (ys.length = m)) (hys : Sts w B A2 c2 ys) (hy0 : 0 < ys.length)
    (hl : xs.length + ys.length ≤ 1000000) (hbase : lo ≤ w.heap.size)
    (h : ∀ SA' sc' w', RowAppended w w' lo B SA SA' sc' (xs ++ ys) → K (a.put o.dst (.slice SA' (n + m) sc')) w') :
    if Region.wanted o (yielded ops a.tmps) = true then Oper.wp Try.prog o a w K Q else E := by
  have hw : Region.wanted o (yielded ops a.tmps) = true := by simp [Region.wanted, hgd]
  rw [if_pos hw]
  exact wp_append_row w s x ho lo B SA sc n xs hs hn hown hBl A2 c2 m ys hx hm hys hy0 hl hbase h
end Go.Proofs.Ytdjgpoenlmhonaa
