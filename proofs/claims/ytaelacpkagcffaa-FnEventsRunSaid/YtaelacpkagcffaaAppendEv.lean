/- Appends of one event to lists of events of the call's own. Condition: the lists are short. -/
import Derived.Test.YtaelacpkagcffaaAppend
import Derived.Test.YtaelacpkagcffaaEvWords
namespace Go.Proofs.Ytaelacpkagcffaa
set_option linter.unusedVariables false
set_option maxRecDepth 100000
open Go.RowKit

theorem eventInfo3 : (Try.prog.info? 41).map (fun i => (i.zero, i.size, i.bytes)) = some (some (.agg #[.int .i64 0, .string ⟨#[]⟩]), 2, 24) := by kernel_rfl

/-- What is behind an append of one event. -/
structure AppendedE (w w' : World) (base : Nat) (A : Option Addr) (A' : Option Addr) (c' : Nat) (es : List Ev) (x : Ev) : Prop where
  own : OwnEvs w' base A' c' (es ++ [x])
  low : Below base w w'
  grown : w.grownBy w' (A.map (·.block))
  at_ : A'.map (·.block) = A.map (·.block) ∨ A'.map (·.block) = some w.heap.size

theorem wp_append_event (w : World) {o : Oper} {a : Act} {K : Act → World → Prop} {Q : Exit → Act → World → Prop} (s x : Operand)
    (ho : o.op = .call { callee := .builtin .append, args := #[s, x], argTypes := #[52, 52] })
    (base : Nat) (A : Option Addr) (c : Nat) (es : List Ev) (hs : a.eval s = .slice A es.length c) (hown : OwnEvs w base A c es)
    (ad : Addr) (m : Nat) (ev : Ev) (hx : a.eval x = .slice (some ad) 1 m) (hcell : w.cell? ad = some (.int .i64 ev.kind)) (hcell1 : w.cell? (ad.add 1) = some (.string ev.name)) (hnm : ev.name.size ≤ 9223372036854775807)
    (hl : es.length ≤ 2000000) (hbase : base ≤ w.heap.size)
    (h : ∀ A' c' w', AppendedE w w' base A A' c' es ev → K (a.put o.dst (.slice A' (es.length + 1) c')) w') : o.wp Try.prog a w K Q := by
  obtain ⟨i0, hi, hz0, hz1, hz2⟩ := info_parts eventInfo3
  obtain ⟨v', w', hrun, hown', hg, _, hat⟩ := run_append_own_at (P := Try.prog) w base 52 o.type 41 i0 (.agg #[.int .i64 0, .string ⟨#[]⟩]) 2 24 Try.underlying52 hi hz0 hz1 hz2 rfl (by decide) (.slice A es.length c) es.length (es.flatMap evCells) hown.1
    ad 1 m (evCells ev) rfl (by
      intro j u hj
      rcases j with _ | _ | j
      · simp [evCells] at hj; subst hj
        have : ad.add 0 = ad := by unfold Addr.add; simp
        rw [this]; exact hcell
      · simp [evCells] at hj; subst hj; exact hcell1
      · simp [evCells] at hj) (by
      intro u hu
      simp [evCells] at hu
      rcases hu with rfl | rfl <;> rfl) (by simp only [maxLen]; omega) (by omega) hbase
  obtain ⟨A', c', rfl, ho'⟩ := OwnEvs.of_ (es := es ++ [ev]) hown' (by simp) (by simp) (fun y hy => by
    rcases List.mem_append.1 hy with hy | hy
    · exact hown.2 y hy
    · simp at hy; subst hy; exact hnm)
  have e : (es ++ [ev]).length = es.length + 1 := by simp
  rw [e] at hrun hat
  rw [ownBlock_slice] at hg
  rw [ownBlock_slice, ownBlock_slice] at hat
  unfold Oper.wp execOp
  simp only [ho, resolve, invoke, builtin, Sem.run_bind, Sem.run_pure, Result.andThen_ok, List.map_toArray, List.map_cons, List.map_nil, hs, hx, hrun]
  refine h A' c' w' ⟨ho', ?_, hg, hat⟩
  refine (Below.refl _ _).grown hg hbase fun k hk => ?_
  have := hown.1.lt k (by rw [ownBlock_slice]; exact hk)
  exact this.1

theorem wpList_append_event (w : World) {ops : Array Oper} {rest : List Oper} {o : Oper} {a : Act} {Q : Exit → Act → World → Prop} (hgd : o.guard = none) (s x : Operand)
    (ho : o.op = .call { callee := .builtin .append, args := #[s, x], argTypes := #[52, 52] })
    (base : Nat) (A : Option Addr) (c : Nat) (es : List Ev) (hs : a.eval s = .slice A es.length c) (hown : OwnEvs w base A c es)
    (ad : Addr) (m : Nat) (ev : Ev) (hx : a.eval x = .slice (some ad) 1 m) (hcell : w.cell? ad = some (.int .i64 ev.kind)) (hcell1 : w.cell? (ad.add 1) = some (.string ev.name)) (hnm : ev.name.size ≤ 9223372036854775807)
    (hl : es.length ≤ 2000000) (hbase : base ≤ w.heap.size)
    (h : ∀ A' c' w', AppendedE w w' base A A' c' es ev → wpList Try.prog ops Q rest (a.put o.dst (.slice A' (es.length + 1) c')) w') : wpList Try.prog ops Q (o :: rest) a w :=
  wpList_plain hgd fun _ hK => wp_append_event w s x ho base A c es hs hown ad m ev hx hcell hcell1 hnm hl hbase fun A' c' w' h1 => hK _ _ (h A' c' w' h1)
end Go.Proofs.Ytaelacpkagcffaa
