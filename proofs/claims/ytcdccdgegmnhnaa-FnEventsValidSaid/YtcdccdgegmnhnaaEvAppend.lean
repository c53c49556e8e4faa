/- Appends to lists of events of the call's own. Condition: the lists are short. -/
import Derived.Test.YtcdccdgegmnhnaaAppend
import Derived.Test.YtcdccdgegmnhnaaEvWords
namespace Go.Proofs.Ytcdccdgegmnhnaa
set_option linter.unusedVariables false
set_option maxRecDepth 100000
open Go.RowKit

theorem eventInfo3 : (Try.prog.info? 41).map (fun i => (i.zero, i.size, i.bytes)) = some (some (.agg #[.int .i64 0, .string ⟨#[]⟩]), 2, 24) := by kernel_rfl

theorem evCells_one {es : List Ev} : ∀ u ∈ es.flatMap evCells, u.oneCell' = true := by
  intro u hu
  obtain ⟨e, _, h⟩ := List.mem_flatMap.1 hu
  simp only [evCells, List.mem_cons, List.not_mem_nil, or_false] at h
  rcases h with rfl | rfl <;> rfl

theorem Evs.cellsAt {w : World} {B c : Nat} {A : Option Addr} {es : List Ev} {ad : Addr} (h : Evs w B A c es) (hA : A = some ad) : ∀ j u, (es.flatMap evCells)[j]? = some u → w.cell? (ad.add j) = some u := by
  intro j u hu
  have hj : j < es.length * 2 := by
    have := (List.getElem?_eq_some_iff.1 hu).1
    rwa [evCells_length] at this
  obtain ⟨ad', e, _, hc⟩ := h.cells (by omega)
  subst hA
  injection e with e
  subst e
  have h2 := hc (j / 2) (by omega)
  have h3 := evCells_at es (j / 2) (by omega)
  rcases Nat.mod_two_eq_zero_or_one j with hm | hm
  · have e : j / 2 * 2 = j := by omega
    rw [e] at h2 h3
    rw [h3.1] at hu
    injection hu with hu
    rw [← hu]; exact h2.1
  · have e : j / 2 * 2 + 1 = j := by omega
    rw [e] at h3
    rw [h3.2] at hu
    injection hu with hu
    rw [← hu]
    have hadd : ad.add j = ⟨(ad.add (j / 2 * 2)).block, (ad.add (j / 2 * 2)).off + 1, none⟩ := by
      have : ad.add j = (ad.add (j / 2 * 2)).add 1 := by rw [add_of_add, e]
      rw [this]; rfl
    rw [hadd]; exact h2.2

theorem wp_append_evs (w : World) {o : Oper} {a : Act} {K : Act → World → Prop} {Q : Exit → Act → World → Prop} (s x : Operand)
    (ho : o.op = .call { callee := .builtin .append, args := #[s, x], argTypes := #[37, 37] })
    (base : Nat) (A : Option Addr) (c : Nat) (xs : List Ev) (n : Nat) (hs : a.eval s = .slice A n c) (hn : Hid (n = xs.length)) (hown : OwnEvs w base A c xs)
    (A2 : Option Addr) (c2 B : Nat) (ys : List Ev) (m : Nat) (hx : a.eval x = .slice A2 m c2) (hm : Hid (m = ys.length)) (hys : Evs w B A2 c2 ys)
    (r : List Ev) (hr : r = xs ++ ys)
    (hl : r.length ≤ 2000000) (hbase : base ≤ w.heap.size)
    (h : ∀ A' c' w', OwnEvs w' base A' c' r → Below base w w' → w.grownBy w' (A.map (·.block)) → K (a.put o.dst (.slice A' r.length c')) w') : o.wp Try.prog a w K Q := by
  obtain rfl := hn.out
  obtain rfl := hm.out
  subst hr
  have hl' : xs.length + ys.length ≤ 2000000 := by simpa using hl
  obtain ⟨i0, hi, hz0, hz1, hz2⟩ := info_parts eventInfo3
  rcases hA : A2 with _ | ad
  · subst hA
    have h0 : ys = [] := by
      rcases Nat.eq_zero_or_pos ys.length with h | h
      · exact List.eq_nil_of_length_eq_zero h
      · obtain ⟨ad, e, _⟩ := hys.cells h; cases e
    subst h0
    have hrun := run_append_of_nil w (P := Try.prog) base 37 o.type 41 i0 2 Try.underlying37 hi _ _ _ hown.1 c2
    unfold Oper.wp execOp
    simp only [ho, resolve, invoke, builtin, Sem.run_bind, Sem.run_pure, Result.andThen_ok, List.map_toArray, List.map_cons, List.map_nil, hs, hx, List.length_nil, hrun]
    have := h A c w (by simpa using hown) (Below.refl _ _) (World.grownBy.refl w _)
    simp only [List.append_nil] at this
    exact this
  · subst hA
    refine wp_append_own w s x 37 ho base 41 i0 _ 2 24 Try.underlying37 hi hz0 hz1 hz2 rfl (by decide) (.slice A xs.length c) xs.length (xs.flatMap evCells) hs hown.1
      ad ys.length c2 (ys.flatMap evCells) hx (evCells_length ys) (hys.cellsAt rfl) evCells_one (by simp only [maxLen]; omega) (by omega) hbase ?_
    intro v' w' hown' hg _
    obtain ⟨A', c', rfl, ho'⟩ := OwnEvs.of_ (es := xs ++ ys) hown' (by simp) (by simp) (fun y hy => by
        rcases List.mem_append.1 hy with hy | hy
        · exact hown.2 y hy
        · obtain ⟨j, hj, rfl⟩ := List.getElem_of_mem hy; exact hys.lens j hj)
    rw [ownBlock_slice] at hg
    refine h A' c' w' ho' ?_ hg
    refine (Below.refl _ _).grown hg hbase fun k hk => ?_
    have := hown.1.lt k (by rw [ownBlock_slice]; exact hk)
    exact this.1

theorem wpList_append_evs (w : World) {ops : Array Oper} {rest : List Oper} {o : Oper} {a : Act} {Q : Exit → Act → World → Prop} (hgd : o.guard = none) (s x : Operand)
    (ho : o.op = .call { callee := .builtin .append, args := #[s, x], argTypes := #[37, 37] })
    (base : Nat) (A : Option Addr) (c : Nat) (xs : List Ev) (n : Nat) (hs : a.eval s = .slice A n c) (hn : Hid (n = xs.length)) (hown : OwnEvs w base A c xs)
    (A2 : Option Addr) (c2 B : Nat) (ys : List Ev) (m : Nat) (hx : a.eval x = .slice A2 m c2) (hm : Hid (m = ys.length)) (hys : Evs w B A2 c2 ys)
    (r : List Ev) (hr : r = xs ++ ys)
    (hl : r.length ≤ 2000000) (hbase : base ≤ w.heap.size)
    (h : ∀ A' c' w', OwnEvs w' base A' c' r → Below base w w' → w.grownBy w' (A.map (·.block)) → wpList Try.prog ops Q rest (a.put o.dst (.slice A' r.length c')) w') : wpList Try.prog ops Q (o :: rest) a w :=
  wpList_plain hgd fun _ hK => wp_append_evs w s x ho base A c xs n hs hn hown A2 c2 B ys m hx hm hys r hr hl hbase fun A' c' w' h1 h2 h3 => hK _ _ (h A' c' w' h1 h2 h3)

theorem step_append_evs (w : World) {ops : Array Oper} {o : Oper} {a : Act} {K : Act → World → Prop} {Q : Exit → Act → World → Prop} {E : Prop} (hgd : o.guard = none) (s x : Operand)
    (ho : o.op = .call { callee := .builtin .append, args := #[s, x], argTypes := #[37, 37] })
    (base : Nat) (A : Option Addr) (c : Nat) (xs : List Ev) (n : Nat) (hs : a.eval s = .slice A n c) (hn : Hid (n = xs.length)) (hown : OwnEvs w base A c xs)
    (A2 : Option Addr) (c2 B : Nat) (ys : List Ev) (m : Nat) (hx : a.eval x = .slice A2 m c2) (hm : Hid (m = ys.length)) (hys : Evs w B A2 c2 ys)
    (r : List Ev) (hr : r = xs ++ ys)
    (hl : r.length ≤ 2000000) (hbase : base ≤ w.heap.size)
    (h : ∀ A' c' w', OwnEvs w' base A' c' r → Below base w w' → w.grownBy w' (A.map (·.block)) → K (a.put o.dst (.slice A' r.length c')) w') :
    if Region.wanted o (yielded ops a.tmps) = true then Oper.wp Try.prog o a w K Q else E := by
  have hw : Region.wanted o (yielded ops a.tmps) = true := by simp [Region.wanted, hgd]
  rw [if_pos hw]
  exact wp_append_evs w s x ho base A c xs n hs hn hown A2 c2 B ys m hx hm hys r hr hl hbase h

theorem Evs.cut {w : World} {B c : Nat} {A : Option Addr} {es : List Ev} (h : Evs w B A c es) (k : Nat) (hk : k ≤ es.length) : Evs w B (if c = k then A else A.map (·.add (k * 2))) (c - k) (es.drop k) := by
  refine ⟨by have := h.len; simp; omega, by have := h.cap; omega, fun j hj => ?_, fun hn => ?_⟩
  · rw [List.getElem_drop]; exact h.lens _ _
  · obtain ⟨ad, rfl, hb, hc⟩ := h.cells (by simp at hn; omega)
    have hck : ¬ c = k := by have := h.len; simp at hn; omega
    refine ⟨ad.add (k * 2), by rw [if_neg hck]; rfl, by rw [block_of_add]; exact hb, fun j hj => ?_⟩
    rw [add_of_add, List.getElem_drop]
    have e : k * 2 + j * 2 = (k + j) * 2 := by omega
    rw [e]
    exact hc _ _

/-- One event that has just been written down. -/
theorem Evs.one (w : World) (k : Int) (s : ByteArray) (hs : s.size ≤ 9223372036854775807) : Evs (w.alloc (.cells #[.int .i64 k, .string s] 41)) (w.heap.size + 1) (some ⟨w.heap.size, 0, none⟩) 1 [⟨k, s⟩] := by
  refine ⟨by simp, by omega, fun j hj => ?_, fun _ => ⟨_, rfl, Nat.lt_succ_self _, fun j hj => ?_⟩⟩
  · have : j = 0 := by simp at hj; omega
    subst this; exact hs
  · have : j = 0 := by simp at hj; omega
    subst this
    constructor
    · show (w.alloc _).cell? ⟨w.heap.size, 0, none⟩ = _
      rw [cell_of_row _ w.heap.size 0 _ _ (0, 0) (heap_alloc_new w _)]; rfl
    · show (w.alloc _).cell? ⟨w.heap.size, 0 + 1, none⟩ = _
      rw [cell_of_row _ w.heap.size 1 _ _ (0, 0) (heap_alloc_new w _)]; rfl

theorem evCells_set (es : List Ev) (k : Nat) (e : Ev) (h : k < es.length) : ((es.flatMap evCells).set (k * 2) (.int .i64 e.kind)).set (k * 2 + 1) (.string e.name) = (es.set k e).flatMap evCells := by
  induction es generalizing k with
  | nil => simp at h
  | cons x r ih =>
    cases k with
    | zero => simp [evCells]
    | succ k =>
      have := ih k (by simpa using h)
      have e1 : (k + 1) * 2 = k * 2 + 1 + 1 := by omega
      rw [e1]
      simp only [List.flatMap_cons, List.set_cons_succ, evCells, List.cons_append, List.nil_append]
      rw [← this]
theorem OwnEvs.store {w : World} {base g c : Nat} {es : List Ev} (h : OwnEvs w base (some ⟨g, 0, none⟩) c es) (k : Nat) (hk : k < es.length) (e : Ev) (he : e.name.size ≤ 9223372036854775807) :
    OwnEvs ((w.setCell ⟨g, k * 2, none⟩ (.int .i64 e.kind)).setCell ⟨g, k * 2 + 1, none⟩ (.string e.name)) base (some ⟨g, 0, none⟩) c (es.set k e) := by
  have h1 := (h.1.stored (k * 2) (.int .i64 e.kind)).1
  have h2 := (h1.stored (k * 2 + 1) (.string e.name)).1
  rw [evCells_set es k e hk] at h2
  refine ⟨by simpa using h2, fun x hx => ?_⟩
  rcases List.mem_or_eq_of_mem_set hx with hx | rfl
  · exact h.2 x hx
  · exact he
theorem ownEvs_form {w : World} {base : Nat} {A : Option Addr} {c : Nat} {es : List Ev} (h : OwnEvs w base A c es) (h0 : 0 < es.length) :
    ∃ ga, A = some ⟨ga, 0, none⟩ ∧ base ≤ ga ∧ ga < w.heap.size ∧ (∀ j, w.frozen? ⟨ga, j, none⟩ = false) ∧
      ∀ j (hj : j < es.length), w.cell? ⟨ga, j * 2, none⟩ = some (.int .i64 es[j].kind) ∧ w.cell? ⟨ga, j * 2 + 1, none⟩ = some (.string es[j].name) := by
  rcases h.1.2 with ⟨_, hn⟩ | ⟨ga, cap, cur, hv, hg, hh, _⟩
  · omega
  · injection hv with h1 h2 h3
    subst h1 h3
    refine ⟨ga, rfl, hg, (Array.getElem?_eq_some_iff.1 hh).1, fun j => h.1.frozenAt j, fun j hj => ?_⟩
    have := evCells_at es j hj
    rw [h.1.cellAt _ (by omega), h.1.cellAt _ (by omega)]
    exact this
end Go.Proofs.Ytcdccdgegmnhnaa
