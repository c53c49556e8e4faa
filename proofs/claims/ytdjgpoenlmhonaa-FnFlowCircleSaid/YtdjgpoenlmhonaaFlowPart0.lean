/- What is known behind a statement that copies a flow's steps and stores a flow with them in a box, made at whatever time. No condition. -/
import Derived.Test.YtdjgpoenlmhonaaStepCopy
import Derived.Test.YtdjgpoenlmhonaaSpecFlows
namespace Go.Proofs.Ytdjgpoenlmhonaa
set_option linter.unusedVariables false
set_option maxRecDepth 100000
open Go.RowKit

/-- A flow in a box of its own; its steps lie in a row of their own. -/
def CutFlow (W0 : World) (ver : Int) (ss : List St) (vb : Value) (wx : World) : Prop :=
  ∃ (b : Nat) (A : Option Addr) (c : Nat), vb = .pointer (some ⟨b, 0, none⟩) ∧ FlowBox wx b (.int .i64 ver) (.slice A ss.length c) ∧ W0.heap.size ≤ b ∧ RowSts wx W0.heap.size W0.heap.size A c ss ∧ (∀ q, A = some q → q.block ≠ b) ∧ Below W0.heap.size W0 wx

theorem cutF_box {W0 wK : World} {ver : Int} {ss : List St} {n b c : Nat} {A : Option Addr} {x y : Value} (hn : Hid (n = ss.length)) (hb : Below W0.heap.size W0 wK) (bx : FlowBox wK b x y) (hW : W0.heap.size ≤ b) (ho : RowSts wK W0.heap.size W0.heap.size A c ss) (hne : ∀ q, A = some q → q.block ≠ b) :
    CutFlow W0 ver ss (.pointer (some ⟨b, 0, none⟩)) ((wK.setCell ⟨b, 0, none⟩ (.int .i64 ver)).setCell ⟨b, 1, none⟩ (.slice A n c)) := by
  have hn := hn.out
  subst hn
  have hset : ∀ k, k ≠ b → ((wK.setCell ⟨b, 0, none⟩ (.int .i64 ver)).setCell ⟨b, 1, none⟩ (.slice A ss.length c)).heap[k]? = wK.heap[k]? := fun k hk => (Below.heap_setCell _ _ _ _ hk).trans (Below.heap_setCell _ _ _ _ hk)
  exact ⟨b, A, c, rfl, (bx.set0 _).set1 _, hW, ho.move (fun q e => hset _ (hne q e)) (fun k hk => hset k (by omega)), hne, (hb.setCell hW _).setCell hW _⟩
theorem cutF_last {W0 wK : World} {ver : Int} {ss : List St} {n c : Nat} {A : Option Addr} (hn : Hid (n = ss.length)) (hb : Below W0.heap.size W0 wK) (ho : RowSts wK W0.heap.size W0.heap.size A c ss) :
    CutFlow W0 ver ss (.pointer (some ⟨wK.heap.size, 0, none⟩)) (wK.alloc (.cells #[.int .i64 ver, .slice A n c] 25)) := by
  have hn := hn.out
  subst hn
  refine ⟨wK.heap.size, A, c, rfl, FlowBox.new _ _ _, hb.size, ho.alloc hb.size _, fun q e => ?_, hb.alloc hb.size _⟩
  obtain ⟨⟨vs, hr, _⟩, _⟩ := ho
  have := (hr.lt q.block (by rw [ownBlock_slice, e]; rfl)).2
  omega
/-- Behind the append: nothing old has turned; the box, if it lies, is as it was. -/
theorem row_after {W0 W wK : World} {SA' : Option Addr} {sc' na : Nat} {ss : List St} (ha : RowAppended W wK W0.heap.size W0.heap.size (some ⟨na, 0, none⟩) SA' sc' ss) (hW : Below W0.heap.size W0 W) (hna : W0.heap.size ≤ na) : Below W0.heap.size W0 wK :=
  hW.grown ha.grown hW.size fun k e => by injection e with e; subst e; exact hna
theorem box_after {W0 W wK : World} {SA' : Option Addr} {sc' na b : Nat} {ss : List St} {x y : Value} (ha : RowAppended W wK W0.heap.size W0.heap.size (some ⟨na, 0, none⟩) SA' sc' ss) (bx : FlowBox W b x y) (hne : b ≠ na) : FlowBox wK b x y ∧ ∀ q, SA' = some q → q.block ≠ b := by
  refine ⟨(ha.grown.block b bx.lt (fun e => by injection e with e; exact hne e)).trans bx, fun q e => ?_⟩
  subst e
  have hbl := bx.lt
  rcases ha.at_ with hat | hat
  · have hat' : some q.block = some na := hat
    injection hat' with hat'
    omega
  · have hat' : some q.block = some W.heap.size := hat
    injection hat' with hat'
    omega
theorem FlowBox.new_at (w : World) (x y : Value) (n : Nat) (hn : w.heap.size = n) : FlowBox (w.alloc (.cells #[x, y] 25)) n x y := hn ▸ FlowBox.new w x y
theorem FlowBox.al {w : World} {b : Nat} {x y : Value} (h : FlowBox w b x y) (o : Obj) : FlowBox (w.alloc o) b x y := (Below.heap_alloc _ _ _ h.lt).trans h

/-- The first step of the row comes after one name alone. -/
theorem RowSts.setAfter {w : World} {lo B sc b i : Nat} {ss : List St} (h : RowSts w lo B (some ⟨b, 0, none⟩) sc ss) (hB : B ≤ lo) (hl : lo ≤ w.heap.size) (hi : i < ss.length) (x : ByteArray) (hx : x.size ≤ 9223372036854775807) (hnew : Nat) (hh : w.heap.size = hnew) :
    Sts ((w.alloc (.cells #[.string x] 9)).setCell ⟨b, i * 3 + 1, none⟩ (.slice (some ⟨hnew, 0, none⟩) 1 1)) ((w.alloc (.cells #[.string x] 9)).setCell ⟨b, i * 3 + 1, none⟩ (.slice (some ⟨hnew, 0, none⟩) 1 1)).heap.size (some ⟨b, 0, none⟩) sc (ss.set i { ss[i] with after := [x] }) := by
  subst hh
  obtain ⟨b', e, hb, hbl, hlc, hcc⟩ := h.form (by omega)
  injection e with e
  injection e with e
  subst e
  have hz : ((w.alloc (.cells #[.string x] 9)).setCell ⟨b, i * 3 + 1, none⟩ (.slice (some ⟨w.heap.size, 0, none⟩) 1 1)).heap.size = w.heap.size + 1 := by simp [World.setCell]
  have hbz := Nat.lt_of_lt_of_eq (Nat.lt_succ_of_lt hbl) hz.symm
  have hwz := Nat.lt_of_lt_of_eq (Nat.lt_succ_self w.heap.size) hz.symm
  refine ⟨by rw [List.length_set]; exact hlc, hcc, fun j hj => ?_, fun _ => ⟨_, rfl, hbz, fun j hj => ?_⟩⟩
  · rw [List.length_set] at hj
    rw [List.getElem_set]
    split
    · exact h.lens i hi
    · exact h.lens j hj
  · rw [List.length_set] at hj
    have hadd : (⟨b, 0, none⟩ : Addr).add (j * 3) = ⟨b, j * 3, none⟩ := by unfold Addr.add; split <;> simp_all
    rw [hadd]
    obtain ⟨e0, ⟨A', c', e1, e2⟩, e3, _⟩ := h.cells j hj
    have hcell : ∀ m v, m ≠ i * 3 + 1 → w.cell? ⟨b, m, none⟩ = some v → ((w.alloc (.cells #[.string x] 9)).setCell ⟨b, i * 3 + 1, none⟩ (.slice (some ⟨w.heap.size, 0, none⟩) 1 1)).cell? ⟨b, m, none⟩ = some v := by
      intro m v hm hv
      rw [World.cell?_setCell_other _ _ _ _ (fun e => hm (by injection e with _ e; exact e.symm))]
      exact (World.cell?_alloc_lt w _ _ hbl).trans hv
    have hlow : ∀ p : Addr, p.block < B → ((w.alloc (.cells #[.string x] 9)).setCell ⟨b, i * 3 + 1, none⟩ (.slice (some ⟨w.heap.size, 0, none⟩) 1 1)).cell? p = w.cell? p := by
      intro p hp
      rw [World.cell?_setCell_other _ _ _ _ (fun e => by rw [← e] at hp; exact absurd hp (by show ¬ b < B; omega))]
      exact World.cell?_alloc_lt w _ _ (by omega)
    by_cases hji : i = j
    · subst hji
      rw [List.getElem_set_self]
      refine ⟨some ⟨w.heap.size, 0, none⟩, 1, hcell (i * 3) _ (by omega) e0, ?_, hcell (i * 3 + 2) _ (by omega) e3, by simp, by omega, fun q hq => ?_, fun _ => ⟨_, rfl, hwz, fun q hq => ?_⟩⟩
      · show ((w.alloc _).setCell ⟨b, i * 3 + 1, none⟩ _).cell? ⟨b, i * 3 + 1, none⟩ = _
        have : ((w.alloc (.cells #[.string x] 9)).cell? ⟨b, i * 3 + 1, none⟩).isSome = true := by rw [World.cell?_alloc_lt w _ ⟨b, i * 3 + 1, none⟩ hbl, e1]; rfl
        exact World.cell?_setCell_same' _ _ _ this
      · have : q = 0 := by simp at hq; omega
        subst this; exact hx
      · have : q = 0 := by simp at hq; omega
        subst this
        show ((w.alloc _).setCell ⟨b, i * 3 + 1, none⟩ _).cell? ⟨w.heap.size, 0, none⟩ = _
        rw [World.cell?_setCell_other _ _ _ _ (fun e => by injection e with e; omega)]
        exact cell_new1 w _ _
    · rw [List.getElem_set_ne hji]
      exact ⟨A', c', hcell (j * 3) _ (by omega) e0, hcell (j * 3 + 1) _ (by omega) e1, hcell (j * 3 + 2) _ (by omega) e3, (e2.keep hlow).more (by rw [hz]; omega)⟩

/-- A flow's first step can not come after a name that no step has. -/
theorem flowOk_far {ver : Int} {ss : List St} {x : ByteArray} (h0 : 0 < ss.length) (hx : x ∉ names ss) : flowOk ver (ss.set 0 { ss[0] with after := [x] }) = false := by
  cases hf : flowOk ver (ss.set 0 { ss[0] with after := [x] })
  · rfl
  · obtain ⟨_, _, _, _, _, h6, _⟩ := flowOk_iff.1 hf
    have hm : ({ ss[0] with after := [x] } : St) ∈ ss.set 0 { ss[0] with after := [x] } := List.mem_set h0 _
    have h := h6 _ hm
    unfold stepOk2 at h
    rw [Bool.and_eq_true] at h
    have h2 := haveAll_iff.1 h.2 x (by simp)
    have hnm : names (ss.set 0 { ss[0] with after := [x] }) = names ss := by
      unfold names
      rw [List.map_set]
      show (ss.map _).set 0 (ss[0].name) = _
      have : (ss.map (·.name))[0]'(by simpa using h0) = ss[0].name := by simp
      rw [← this, List.set_getElem_self]
    rw [hnm] at h2
    exact absurd h2 hx
theorem z_top : ∀ (m : Nat) (l : List UInt8), l.length ≤ m → (∀ c ∈ l, c.toNat ≤ 122) → Op.bytesLess (List.replicate m 122) l = false
  | 0, l, h, _ => by
    have : l = [] := List.eq_nil_of_length_eq_zero (by omega)
    subst this; rfl
  | m + 1, [], _, _ => rfl
  | m + 1, b :: y, h, hc => by
    have ih := z_top m y (by simpa using h) fun c hc' => hc c (by simp [hc'])
    have hb : ¬ (122 : UInt8) < b := by
      intro hlt
      have := hc b (by simp)
      have h2 : (122 : UInt8).toNat < b.toNat := hlt
      have h3 : (122 : UInt8).toNat = 122 := rfl
      omega
    rw [List.replicate_succ]
    unfold Op.bytesLess
    rw [ih]
    simp [hb]
theorem zzz_top {x : ByteArray} (h : nameOk x = true) : blt ⟨#[122, 122, 122, 122, 122]⟩ x = false := by
  unfold blt
  rw [show (⟨#[122, 122, 122, 122, 122]⟩ : ByteArray).toList = List.replicate 5 122 by rw [ByteArray.toList_eq]; rfl]
  have hs := nameOk_size h
  have hl := nameOk_low h
  refine z_top 5 _ (by rw [ByteArray.toList_eq]; have := size_toList x; omega) fun c hc => ?_
  rw [ByteArray.toList_eq] at hc
  unfold allLow at hl
  rw [List.all_eq_true] at hl
  have := hl c hc
  unfold isLow at this
  simp only [Bool.and_eq_true, decide_eq_true_eq] at this
  exact this.2
/-- In a valid flow no name comes behind zzzzz. -/
theorem last_far {ver : Int} {ss : List St} (h : flowOk ver ss = true) (h0 : 0 < ss.length) (hl : (ss[ss.length - 1]'(by omega)).name ≠ ⟨#[122, 122, 122, 122, 122]⟩) : (⟨#[122, 122, 122, 122, 122]⟩ : ByteArray) ∉ names ss := by
  obtain ⟨_, _, _, _, h5, _, _⟩ := flowOk_iff.1 h
  intro hm
  obtain ⟨j, hj, e⟩ := List.getElem_of_mem hm
  have hj' : j < ss.length := by rw [names_length] at hj; exact hj
  rw [names_get hj'] at e
  by_cases hje : j = ss.length - 1
  · subst hje; exact hl e
  · have hlt : ss.length - 1 < (names ss).length := by rw [names_length]; omega
    have hb := asc_lt h5 (ss.length - 1) hlt j (by omega)
    rw [names_get hj', names_get (by omega), e] at hb
    have hn := (asc_iff.1 h5 (ss.length - 1) hlt).1
    rw [names_get (by omega)] at hn
    exact absurd hb (by rw [zzz_top hn]; simp)
theorem flowOk_twice {ver : Int} {ss : List St} (h0 : 0 < ss.length) : flowOk ver (ss[0] :: ss) = false := by
  cases hf : flowOk ver (ss[0] :: ss)
  · rfl
  · obtain ⟨_, _, _, _, h5, _, _⟩ := flowOk_iff.1 hf
    have h := asc_lt h5 1 (by rw [names_length]; simp; omega) 0 (by omega)
    rw [names_get (by simp), names_get (by simp; omega)] at h
    simp only [List.getElem_cons_zero, List.getElem_cons_succ] at h
    rw [blt_irrefl] at h; cases h
end Go.Proofs.Ytdjgpoenlmhonaa
