/- Appends of lists of names inside regions that draw their order. Condition: the lists are short. -/
import Derived.Test.YtdjgpoenlmhonaaAppend
namespace Go.Proofs.Ytdjgpoenlmhonaa
set_option linter.unusedVariables false
set_option maxRecDepth 100000
open Go.RowKit

theorem wp_append_strs (w : World) {o : Oper} {a : Act} {K : Act → World → Prop} {Q : Exit → Act → World → Prop} (s x : Operand)
    (ho : o.op = .call { callee := .builtin .append, args := #[s, x], argTypes := #[28, 28] })
    (base : Nat) (A : Option Addr) (c : Nat) (xs : List ByteArray) (n : Nat) (hs : a.eval s = .slice A n c) (hn : Hid (n = xs.length)) (hown : OwnStrs w base A c xs)
    (A2 : Option Addr) (c2 B : Nat) (ys : List ByteArray) (m : Nat) (hx : a.eval x = .slice A2 m c2) (hm : Hid (m = ys.length)) (hys : Strs w B A2 c2 ys)
    (r : List ByteArray) (hr : r = xs ++ ys)
    (hl : r.length ≤ 2000000) (hbase : base ≤ w.heap.size)
    (h : ∀ A' c' w', OwnStrs w' base A' c' r → Below base w w' → w.grownBy w' (A.map (·.block)) → K (a.put o.dst (.slice A' r.length c')) w') : o.wp Try.prog a w K Q := by
  obtain rfl := hn.out
  obtain rfl := hm.out
  subst hr
  have hl' : xs.length + ys.length ≤ 2000000 := by simpa using hl
  obtain ⟨i0, hi, hz0, hz1, hz2⟩ := info_parts stringInfo3
  rcases hA : A2 with _ | ad
  · subst hA
    have h0 : ys = [] := by
      rcases Nat.eq_zero_or_pos ys.length with h | h
      · exact List.eq_nil_of_length_eq_zero h
      · obtain ⟨ad, e, _⟩ := hys.cells h; cases e
    subst h0
    have hrun := run_append_of_nil (P := Try.prog) w base 28 o.type 9 i0 1 Try.underlying28 hi _ _ _ hown.1 c2
    unfold Oper.wp execOp
    simp only [ho, resolve, invoke, builtin, Sem.run_bind, Sem.run_pure, Result.andThen_ok, List.map_toArray, List.map_cons, List.map_nil, hs, hx, List.length_nil, hrun]
    have := h A c w (by simpa using hown) (Below.refl _ _) (World.grownBy.refl w _)
    simp only [List.append_nil] at this
    exact this
  · subst hA
    refine wp_append_own w s x 28 ho base 9 i0 (.string ⟨#[]⟩) 1 16 Try.underlying28 hi hz0 hz1 hz2 rfl (by decide) (.slice A xs.length c) xs.length (xs.map Value.string) hs hown.1
      ad ys.length c2 (ys.map Value.string) hx (by simp) ?_ ?_ (by simp only [maxLen]; omega) (by omega) hbase ?_
    · intro j u hj
      rw [List.getElem?_map, Option.map_eq_some_iff] at hj
      obtain ⟨y, hy, rfl⟩ := hj
      obtain ⟨hlt, rfl⟩ := List.getElem?_eq_some_iff.1 hy
      obtain ⟨ad', e, _, hc⟩ := hys.cells (by omega)
      injection e with e; subst e
      exact hc j hlt
    · intro u hu
      obtain ⟨y, _, rfl⟩ := List.mem_map.1 hu
      rfl
    · intro v' w' hown' hg _
      obtain ⟨A', c', rfl, ho'⟩ := OwnStrs.of_ (xs := xs ++ ys) hown' (by simp) (by simp) (fun y hy => by
        rcases List.mem_append.1 hy with hy | hy
        · exact hown.2 y hy
        · obtain ⟨j, hj, rfl⟩ := List.getElem_of_mem hy; exact hys.lens j hj)
      rw [ownBlock_slice] at hg
      refine h A' c' w' ho' ?_ hg
      refine (Below.refl _ _).grown hg hbase fun k hk => ?_
      have := hown.1.lt k (by rw [ownBlock_slice]; exact hk)
      exact this.1

theorem step_append_strs (w : World) {ops : Array Oper} {o : Oper} {a : Act} {K : Act → World → Prop} {Q : Exit → Act → World → Prop} {E : Prop} (hgd : o.guard = none) (s x : Operand)
    (ho : o.op = .call { callee := .builtin .append, args := #[s, x], argTypes := #[28, 28] })
    (base : Nat) (A : Option Addr) (c : Nat) (xs : List ByteArray) (n : Nat) (hs : a.eval s = .slice A n c) (hn : Hid (n = xs.length)) (hown : OwnStrs w base A c xs)
    (A2 : Option Addr) (c2 B : Nat) (ys : List ByteArray) (m : Nat) (hx : a.eval x = .slice A2 m c2) (hm : Hid (m = ys.length)) (hys : Strs w B A2 c2 ys)
    (r : List ByteArray) (hr : r = xs ++ ys) (hl : r.length ≤ 2000000) (hbase : base ≤ w.heap.size)
    (h : ∀ A' c' w', OwnStrs w' base A' c' r → Below base w w' → w.grownBy w' (A.map (·.block)) → K (a.put o.dst (.slice A' r.length c')) w') :
    if Region.wanted o (yielded ops a.tmps) = true then Oper.wp Try.prog o a w K Q else E := by
  have hw : Region.wanted o (yielded ops a.tmps) = true := by simp [Region.wanted, hgd]
  rw [if_pos hw]
  exact wp_append_strs w s x ho base A c xs n hs hn hown A2 c2 B ys m hx hm hys r hr hl hbase h
end Go.Proofs.Ytdjgpoenlmhonaa
