/- Appends to lists of names of the call's own. Condition: the lists are short. -/
import Derived.Test.YtdjgpoenlmhonaaRows
import Derived.WalkKit
import Derived.WalkSpells
import Derived.WalkLawsBesides
import Derived.Maps.AppendAt
import Derived.Test.YtdjgpoenlmhonaaWords
namespace Go.Proofs.Ytdjgpoenlmhonaa
set_option linter.unusedVariables false
set_option maxRecDepth 100000
open Go.RowKit

theorem stringInfo3 : (Try.prog.info? 9).map (fun i => (i.zero, i.size, i.bytes)) = some (some (.string ⟨#[]⟩), 1, 16) := by kernel_rfl

theorem ownBlock_slice (A : Option Addr) (n c : Nat) : (Value.slice A n c).ownBlock = A.map (·.block) := by cases A <;> rfl

/-- What is behind an append of one name: the list is one longer; below 'base' nothing has turned; nor has any block but the list's own; the list lies where it lay, or in a new block. -/
structure Appended (w w' : World) (base : Nat) (A : Option Addr) (A' : Option Addr) (c' : Nat) (xs : List ByteArray) (nm : ByteArray) : Prop where
  own : OwnStrs w' base A' c' (xs ++ [nm])
  low : Below base w w'
  grown : w.grownBy w' (A.map (·.block))
  at_ : A'.map (·.block) = A.map (·.block) ∨ A'.map (·.block) = some w.heap.size

theorem wp_append_name (w : World) {o : Oper} {a : Act} {K : Act → World → Prop} {Q : Exit → Act → World → Prop} (s x : Operand)
    (ho : o.op = .call { callee := .builtin .append, args := #[s, x], argTypes := #[28, 28] })
    (base : Nat) (A : Option Addr) (c : Nat) (xs : List ByteArray) (hs : a.eval s = .slice A xs.length c) (hown : OwnStrs w base A c xs)
    (ad : Addr) (m : Nat) (nm : ByteArray) (hx : a.eval x = .slice (some ad) 1 m) (hcell : w.cell? ad = some (.string nm)) (hnm : nm.size ≤ 9223372036854775807)
    (hl : xs.length ≤ 2000000) (hbase : base ≤ w.heap.size)
    (h : ∀ A' c' w', Appended w w' base A A' c' xs nm → K (a.put o.dst (.slice A' (xs.length + 1) c')) w') : o.wp Try.prog a w K Q := by
  obtain ⟨i0, hi, hz0, hz1, hz2⟩ := info_parts stringInfo3
  obtain ⟨v', w', hrun, hown', hg, _, hat⟩ := run_append_own_at (P := Try.prog) w base 28 o.type 9 i0 (.string ⟨#[]⟩) 1 16 Try.underlying28 hi hz0 hz1 hz2 rfl (by decide) (.slice A xs.length c) xs.length (xs.map Value.string) hown.1
    ad 1 m [.string nm] rfl (by
      intro j u hj
      cases j with
      | zero =>
        simp at hj; subst hj
        have : ad.add 0 = ad := by unfold Addr.add; simp
        rw [this]; exact hcell
      | succ j => simp at hj) (by
      intro u hu
      simp at hu; subst hu; rfl) (by simp only [maxLen]; omega) (by omega) hbase
  obtain ⟨A', c', rfl, ho'⟩ := OwnStrs.of_ (xs := xs ++ [nm]) hown' (by simp) (by simp) (fun y hy => by
    rcases List.mem_append.1 hy with hy | hy
    · exact hown.2 y hy
    · simp at hy; subst hy; exact hnm)
  have e : (xs ++ [nm]).length = xs.length + 1 := by simp
  rw [e] at hrun hat
  rw [ownBlock_slice] at hg
  rw [ownBlock_slice, ownBlock_slice] at hat
  unfold Oper.wp execOp
  simp only [ho, resolve, invoke, builtin, Sem.run_bind, Sem.run_pure, Result.andThen_ok, List.map_toArray, List.map_cons, List.map_nil, hs, hx, hrun]
  refine h A' c' w' ⟨ho', ?_, hg, hat⟩
  refine (Below.refl _ _).grown hg hbase fun k hk => ?_
  have := hown.1.lt k (by rw [ownBlock_slice]; exact hk)
  exact this.1

theorem wpList_append_name (w : World) {ops : Array Oper} {rest : List Oper} {o : Oper} {a : Act} {Q : Exit → Act → World → Prop} (hgd : o.guard = none) (s x : Operand)
    (ho : o.op = .call { callee := .builtin .append, args := #[s, x], argTypes := #[28, 28] })
    (base : Nat) (A : Option Addr) (c : Nat) (xs : List ByteArray) (hs : a.eval s = .slice A xs.length c) (hown : OwnStrs w base A c xs)
    (ad : Addr) (m : Nat) (nm : ByteArray) (hx : a.eval x = .slice (some ad) 1 m) (hcell : w.cell? ad = some (.string nm)) (hnm : nm.size ≤ 9223372036854775807)
    (hl : xs.length ≤ 2000000) (hbase : base ≤ w.heap.size)
    (h : ∀ A' c' w', Appended w w' base A A' c' xs nm → wpList Try.prog ops Q rest (a.put o.dst (.slice A' (xs.length + 1) c')) w') : wpList Try.prog ops Q (o :: rest) a w :=
  wpList_plain hgd fun _ hK => wp_append_name w s x ho base A c xs hs hown ad m nm hx hcell hnm hl hbase fun A' c' w' h1 => hK _ _ (h A' c' w' h1)

theorem step_append_name (w : World) {ops : Array Oper} {o : Oper} {a : Act} {K : Act → World → Prop} {Q : Exit → Act → World → Prop} {E : Prop} (hgd : o.guard = none) (s x : Operand)
    (ho : o.op = .call { callee := .builtin .append, args := #[s, x], argTypes := #[28, 28] })
    (base : Nat) (A : Option Addr) (c : Nat) (xs : List ByteArray) (hs : a.eval s = .slice A xs.length c) (hown : OwnStrs w base A c xs)
    (ad : Addr) (m : Nat) (nm : ByteArray) (hx : a.eval x = .slice (some ad) 1 m) (hcell : w.cell? ad = some (.string nm)) (hnm : nm.size ≤ 9223372036854775807)
    (hl : xs.length ≤ 2000000) (hbase : base ≤ w.heap.size)
    (h : ∀ A' c' w', Appended w w' base A A' c' xs nm → K (a.put o.dst (.slice A' (xs.length + 1) c')) w') :
    if Region.wanted o (yielded ops a.tmps) = true then Oper.wp Try.prog o a w K Q else E := by
  have hw : Region.wanted o (yielded ops a.tmps) = true := by simp [Region.wanted, hgd]
  rw [if_pos hw]
  exact wp_append_name w s x ho base A c xs hs hown ad m nm hx hcell hnm hl hbase h

theorem run_append_of_nil (w : World) {P : Program} (base : Nat) (t ty e : TypeId) (i : TypeInfo) (size : Nat) (ht : P.underlying t = some (.slice e)) (hi : P.info? e = some i)
    (v : Value) (n : Nat) (xs : List Value) (hown : w.ownsRow base e size v n xs) (c : Nat) : (Builtin.append_ #[t, t] ty #[v, .slice none 0 c]).run P w = .ok v w := by
  rcases hown.2 with ⟨rfl, rfl⟩ | ⟨g, cap, cur, rfl, _, _, hnc, _⟩
  · simp [Builtin.append_, run_underlying ht, sizeOf, typeInfo, hi, Builtin.lenOf, Builtin.firstCells]
  · simp [Builtin.append_, run_underlying ht, sizeOf, typeInfo, hi, Builtin.lenOf, Builtin.firstCells, hnc, storeCells]

theorem wpList_append_strs (w : World) {ops : Array Oper} {rest : List Oper} {o : Oper} {a : Act} {Q : Exit → Act → World → Prop} (hgd : o.guard = none) (s x : Operand)
    (ho : o.op = .call { callee := .builtin .append, args := #[s, x], argTypes := #[28, 28] })
    (base : Nat) (A : Option Addr) (c : Nat) (xs : List ByteArray) (hs : a.eval s = .slice A xs.length c) (hown : OwnStrs w base A c xs)
    (A2 : Option Addr) (c2 B : Nat) (ys : List ByteArray) (hx : a.eval x = .slice A2 ys.length c2) (hys : Strs w B A2 c2 ys)
    (r : List ByteArray) (hr : r = xs ++ ys)
    (hl : r.length ≤ 2000000) (hbase : base ≤ w.heap.size)
    (h : ∀ A' c' w', OwnStrs w' base A' c' r → Below base w w' → w.grownBy w' (A.map (·.block)) → wpList Try.prog ops Q rest (a.put o.dst (.slice A' r.length c')) w') : wpList Try.prog ops Q (o :: rest) a w := by
  subst hr
  have hl' : xs.length + ys.length ≤ 2000000 := by simpa using hl
  obtain ⟨i0, hi, hz0, hz1, hz2⟩ := info_parts stringInfo3
  rcases hA : A2 with _ | ad
  · subst hA
    have h0 : ys = [] := by
      rcases Nat.eq_zero_or_pos ys.length with h | h
      · exact List.eq_nil_of_length_eq_zero h
      · obtain ⟨ad, e, _⟩ := hys.cells h; cases e
    subst h0
    refine wpList_plain hgd fun K hK => ?_
    have hrun := run_append_of_nil (P := Try.prog) w base 28 o.type 9 i0 1 Try.underlying28 hi _ _ _ hown.1 c2
    unfold Oper.wp execOp
    simp only [ho, resolve, invoke, builtin, Sem.run_bind, Sem.run_pure, Result.andThen_ok, List.map_toArray, List.map_cons, List.map_nil, hs, hx, List.length_nil, hrun]
    have := h A c w (by simpa using hown) (Below.refl _ _) (World.grownBy.refl w _)
    simp only [List.append_nil] at this
    exact hK _ _ this
  · subst hA
    refine wpList_append_own w hgd s x 28 ho base 9 i0 (.string ⟨#[]⟩) 1 16 Try.underlying28 hi hz0 hz1 hz2 rfl (by decide) (.slice A xs.length c) xs.length (xs.map Value.string) hs hown.1
      ad ys.length c2 (ys.map Value.string) hx (by simp) ?_ ?_ (by simp only [maxLen]; omega) (by omega) hbase ?_
    · intro j u hj
      rw [List.getElem?_map, Option.map_eq_some_iff] at hj
      obtain ⟨y, hy, rfl⟩ := hj
      obtain ⟨hlt, rfl⟩ := List.getElem?_eq_some_iff.1 hy
      obtain ⟨ad', e, _, hc⟩ := hys.cells (by omega)
      injection e with e; subst e
      exact hc j hlt
    · intro u hu
      obtain ⟨y, _, rfl⟩ := List.mem_map.1 hu
      rfl
    · intro v' w' hown' hg _
      obtain ⟨A', c', rfl, ho'⟩ := OwnStrs.of_ (xs := xs ++ ys) hown' (by simp) (by simp) (fun y hy => by
        rcases List.mem_append.1 hy with hy | hy
        · exact hown.2 y hy
        · obtain ⟨j, hj, rfl⟩ := List.getElem_of_mem hy; exact hys.lens j hj)
      rw [ownBlock_slice] at hg
      refine h A' c' w' ho' ?_ hg
      refine (Below.refl _ _).grown hg hbase fun k hk => ?_
      have := hown.1.lt k (by rw [ownBlock_slice]; exact hk)
      exact this.1

/-- The address of a slice's rest: at the capacity's end the old one. -/
def cutA (A : Option Addr) (c k : Nat) : Option Addr := if c = k then A else A.map (·.add k)
theorem Strs.cut {w : World} {B c : Nat} {A : Option Addr} {xs : List ByteArray} (h : Strs w B A c xs) (k : Nat) (hk : k ≤ xs.length) : Strs w B (cutA A c k) (c - k) (xs.drop k) := by
  refine ⟨by have := h.len; simp; omega, by have := h.cap; omega, fun j hj => ?_, fun hn => ?_⟩
  · rw [List.getElem_drop]; exact h.lens _ _
  · obtain ⟨ad, rfl, hb, hc⟩ := h.cells (by simp at hn; omega)
    have hck : ¬ c = k := by have := h.len; simp at hn; omega
    refine ⟨ad.add k, by unfold cutA; rw [if_neg hck]; rfl, by rw [block_of_add]; exact hb, fun j hj => ?_⟩
    rw [add_of_add, List.getElem_drop]
    exact hc _ _
end Go.Proofs.Ytdjgpoenlmhonaa
