/- Plain results of FlowBehind, program and reference, and laws on them. No program. No condition. -/
import Derived.Test.YtdjgpoenlmhonaaFindPlain
import Derived.Test.YtdjgpoenlmhonaaPutPlain
namespace Go.Proofs.Ytdjgpoenlmhonaa
set_option linter.unusedVariables false
set_option maxRecDepth 100000

/-- Who comes after a name, directly or by others. -/
inductive Beh (ss : List St) (nm : ByteArray) : ByteArray → Prop
  | dir {s : St} (h : s ∈ ss) (h1 : nm ∈ s.after) : Beh ss nm s.name
  | far {s : St} (h : s ∈ ss) {a : ByteArray} (h1 : a ∈ s.after) (h2 : Beh ss nm a) : Beh ss nm s.name
theorem Beh.of_ {ss : List St} {nm : ByteArray} {s : St} (h : s ∈ ss) {a : ByteArray} (h1 : a ∈ s.after) (h2 : a = nm ∨ Beh ss nm a) : Beh ss nm s.name := by
  rcases h2 with rfl | h2
  · exact .dir h h1
  · exact .far h h1 h2
theorem Beh.mem {ss : List St} {nm x : ByteArray} (h : Beh ss nm x) : x ∈ names ss := by
  cases h with
  | dir h _ => exact List.mem_map.2 ⟨_, h, rfl⟩
  | far h _ _ => exact List.mem_map.2 ⟨_, h, rfl⟩
theorem Beh.step {ss : List St} {nm x : ByteArray} (h : Beh ss nm x) : ∃ s ∈ ss, s.name = x ∧ ∃ a ∈ s.after, a = nm ∨ Beh ss nm a := by
  cases h with
  | dir h h1 => exact ⟨_, h, rfl, _, h1, .inl rfl⟩
  | far h h1 h2 => exact ⟨_, h, rfl, _, h1, .inr h2⟩

/-! ### the program's way -/
def behIn (n : ByteArray) : List ByteArray → List ByteArray → List ByteArray
  | S, [] => S
  | S, a :: r => behIn n (if has S a then n :: S else S) r
def behAll (ss : List St) : List ByteArray → List ByteArray → List ByteArray
  | S, [] => S
  | S, n :: r => behAll ss (behIn n S (stepAt ss n).after) r
def behOf (ss : List St) (nm : ByteArray) : List ByteArray := (names ss).filter fun n => has (behAll ss [nm] (ord ss)) n && !decide (n = nm)
/-- What FlowBehind gives. -/
def behOut (ver : Int) (ss : List St) (nm : ByteArray) : List ByteArray := if findB ver ss nm then behOf ss nm else []
theorem behOut_no {ver : Int} {ss : List St} {nm : ByteArray} (h : findB ver ss nm = false) : behOut ver ss nm = [] := by unfold behOut; rw [h]; rfl
theorem behOut_yes {ver : Int} {ss : List St} {nm : ByteArray} (h : findB ver ss nm = true) : behOut ver ss nm = behOf ss nm := by unfold behOut; rw [h]; rfl

theorem mem_behIn {n x : ByteArray} : ∀ (l S : List ByteArray), x ∈ behIn n S l ↔ x ∈ S ∨ (x = n ∧ ∃ a ∈ l, a ∈ S)
  | [], S => by simp [behIn]
  | a :: r, S => by
    simp only [behIn]
    by_cases h : a ∈ S
    · rw [has_yes h, if_pos rfl, mem_behIn r]
      constructor
      · rintro (hx | ⟨e, _⟩)
        · rcases List.mem_cons.1 hx with e | hx
          · exact .inr ⟨e, a, by simp, h⟩
          · exact .inl hx
        · exact .inr ⟨e, a, by simp, h⟩
      · rintro (hx | ⟨e, _⟩)
        · exact .inl (List.mem_cons_of_mem _ hx)
        · exact .inl (by rw [e]; simp)
    · rw [has_no h, if_neg (by decide), mem_behIn r]
      constructor
      · rintro (hx | ⟨e, b, hb, hbs⟩)
        · exact .inl hx
        · exact .inr ⟨e, b, List.mem_cons_of_mem _ hb, hbs⟩
      · rintro (hx | ⟨e, b, hb, hbs⟩)
        · exact .inl hx
        · rcases List.mem_cons.1 hb with rfl | hb
          · exact absurd hbs h
          · exact .inr ⟨e, b, hb, hbs⟩
theorem behAll_append (ss : List St) : ∀ (l r S : List ByteArray), behAll ss S (l ++ r) = behAll ss (behAll ss S l) r
  | [], _, _ => rfl
  | n :: l, r, S => behAll_append ss l r _

theorem ord_sub {ss : List St} {n : ByteArray} (h : n ∈ ord ss) : n ∈ names ss := ordN_sub ss _ n h
theorem stepAt_ord {ss : List St} {j : Nat} (hj : j < (ord ss).length) : stepAt ss (ord ss)[j] ∈ ss ∧ (stepAt ss (ord ss)[j]).name = (ord ss)[j] := stepAt_spec (ord_sub (List.getElem_mem hj))
section
variable {ver : Int} {ss : List St} (hf : flowOk ver ss = true)
include hf
theorem ord_len : (ord ss).length = ss.length := (flowOk_iff.1 hf).2.2.2.2.2.2
theorem mem_ord {n : ByteArray} (h : n ∈ names ss) : n ∈ ord ss := by
  obtain ⟨s, hs, rfl⟩ := List.mem_map.1 h
  exact ord_mem (ord_len hf) s hs
/-- What a step of the order comes after lies ahead of it. -/
theorem ord_after {j : Nat} (hj : j < (ord ss).length) {s : St} (hs : s ∈ ss) (hn : s.name = (ord ss)[j]) : ∀ a ∈ s.after, a ∈ (ord ss).take j := by
  obtain ⟨_, _, _, _, hasc, _, hlen⟩ := flowOk_iff.1 hf
  obtain ⟨r, hr⟩ := ord_head hlen (k := j) (by omega)
  have h1 : (ord ss)[j] ∈ ready ss ((ord ss).take j) := by rw [hr]; simp
  obtain ⟨t, ht, hready, hname⟩ := mem_ready.1 h1
  obtain rfl := names_inj hasc ht hs (hname.trans hn.symm)
  unfold isReady at hready
  simp only [Bool.and_eq_true] at hready
  exact haveAll_iff.1 hready.2
theorem step_of {s : St} (hs : s ∈ ss) : stepAt ss s.name = s := by
  obtain ⟨h1, h2⟩ := stepAt_spec (ss := ss) (n := s.name) (List.mem_map.2 ⟨s, hs, rfl⟩)
  exact names_inj (flowOk_iff.1 hf).2.2.2.2.1 h1 hs h2
/-- Who comes after a name lies behind it in the order. -/
theorem beh_later {nm x : ByteArray} (hnm : nm ∈ names ss) (h : Beh ss nm x) : place (ord ss) nm < place (ord ss) x := by
  have key : ∀ {s : St}, s ∈ ss → ∀ a ∈ s.after, place (ord ss) a < place (ord ss) s.name := by
    intro s hs a ha
    have hm := mem_ord hf (List.mem_map.2 ⟨s, hs, rfl⟩ : s.name ∈ names ss)
    rcases place_lt (ord ss) s.name with hneg | ⟨h0, hk, he, _⟩
    · have := place_mem hm; omega
    · have hin := ord_after hf hk hs he.symm a ha
      obtain ⟨i, hi, e⟩ := List.mem_take_iff_getElem.1 hin
      have hia : i < (ord ss).length := by omega
      have hpl : place (ord ss) a ≤ i := by
        rcases place_lt (ord ss) a with hneg | ⟨_, _, _, hall⟩
        · omega
        · refine Classical.byContradiction fun hc => ?_
          exact hall i hia (by omega) e
      omega
  induction h with
  | dir h h1 => exact key h _ h1
  | far h h1 _ ih => exact Int.lt_trans ih (key h _ h1)
theorem beh_self {nm : ByteArray} : ¬ Beh ss nm nm := fun h => by
  have := beh_later hf h.mem h
  omega
theorem behAll_take (nm : ByteArray) : ∀ j, j ≤ (ord ss).length → ∀ x, x ∈ behAll ss [nm] ((ord ss).take j) ↔ x = nm ∨ (Beh ss nm x ∧ x ∈ (ord ss).take j)
  | 0, _, x => by simp [behAll]
  | j + 1, hj, x => by
    have ih := behAll_take nm j (by omega)
    have hjl : j < (ord ss).length := by omega
    obtain ⟨hs1, hs2⟩ := stepAt_ord hjl
    rw [List.take_succ_eq_append_getElem hjl, behAll_append]
    show x ∈ behIn (ord ss)[j] (behAll ss [nm] ((ord ss).take j)) (stepAt ss (ord ss)[j]).after ↔ _
    rw [mem_behIn]
    have hex : (∃ a ∈ (stepAt ss (ord ss)[j]).after, a ∈ behAll ss [nm] ((ord ss).take j)) ↔ Beh ss nm (ord ss)[j] := by
      constructor
      · rintro ⟨a, ha, h⟩
        have := (ih a).1 h
        rw [← hs2]
        exact Beh.of_ hs1 ha (this.imp id And.left)
      · intro h
        obtain ⟨s, hs, hn, a, ha, hb⟩ := h.step
        have e : stepAt ss (ord ss)[j] = s := by rw [← hn]; exact step_of hf hs
        rw [e]
        exact ⟨a, ha, (ih a).2 (hb.imp id fun h => ⟨h, ord_after hf hjl hs hn a ha⟩)⟩
    rw [hex, ih]
    constructor
    · rintro ((e | ⟨h1, h2⟩) | ⟨e, h⟩)
      · exact .inl e
      · exact .inr ⟨h1, List.mem_append_left _ h2⟩
      · exact .inr ⟨by rw [e]; exact h, List.mem_append_right _ (by simp [e])⟩
    · rintro (e | ⟨h1, h2⟩)
      · exact .inl (.inl e)
      · rcases List.mem_append.1 h2 with h2 | h2
        · exact .inl (.inr ⟨h1, h2⟩)
        · simp at h2
          exact .inr ⟨h2, by rw [← h2]; exact h1⟩
theorem mem_behOf {nm x : ByteArray} : x ∈ behOf ss nm ↔ Beh ss nm x := by
  unfold behOf
  have h1 := behAll_take hf nm (ord ss).length (Nat.le_refl _) x
  rw [List.take_length] at h1
  simp only [List.mem_filter, Bool.and_eq_true, Bool.not_eq_true', decide_eq_false_iff_not]
  constructor
  · rintro ⟨_, h2, h3⟩
    rcases h1.1 (has_mem h2) with e | ⟨h, _⟩
    · exact absurd e h3
    · exact h
  · intro h
    refine ⟨h.mem, has_yes (h1.2 (.inr ⟨h, mem_ord hf h.mem⟩)), fun e => ?_⟩
    subst e
    exact beh_self hf h
theorem behOf_srt (nm : ByteArray) : Srt (behOf ss nm) := List.Pairwise.filter _ (asc_srt (flowOk_iff.1 hf).2.2.2.2.1)
end

/-! ### the reference's way -/
def sbK (n : ByteArray) : List ByteArray → List ByteArray → List ByteArray
  | out, [] => out
  | out, a :: r => sbK n (if has out a then putIn out n else out) r
def sbS (nm : ByteArray) (out : List ByteArray) (s : St) : List ByteArray := sbK s.name (if has s.after nm then putIn out s.name else out) s.after
def sbR (nm : ByteArray) : List ByteArray → List St → List ByteArray
  | out, [] => out
  | out, s :: r => sbR nm (sbS nm out s) r
def sbN (nm : ByteArray) (ss : List St) : Nat → List ByteArray
  | 0 => []
  | k + 1 => sbR nm (sbN nm ss k) ss
theorem sbK_inv (P : List ByteArray → Prop) {n : ByteArray} (hp : ∀ out, P out → P (putIn out n)) : ∀ (l out : List ByteArray), P out → P (sbK n out l)
  | [], _, h => h
  | a :: r, out, h => by
    simp only [sbK]
    split
    · exact sbK_inv P hp r _ (hp _ h)
    · exact sbK_inv P hp r _ h
theorem sbS_inv (P : List ByteArray → Prop) {nm : ByteArray} {s : St} (hp : ∀ out, P out → P (putIn out s.name)) {out : List ByteArray} (h : P out) : P (sbS nm out s) := by
  unfold sbS
  refine sbK_inv P hp _ _ ?_
  split
  · exact hp _ h
  · exact h
theorem sbR_inv (P : List ByteArray → Prop) {nm : ByteArray} : ∀ (l : List St), (∀ s ∈ l, ∀ out, P out → P (putIn out s.name)) → ∀ out, P out → P (sbR nm out l)
  | [], _, _, h => h
  | s :: r, hp, out, h => sbR_inv P r (fun t ht => hp t (List.mem_cons_of_mem _ ht)) _ (sbS_inv P (hp s (by simp)) h)
theorem sbN_inv (P : List ByteArray → Prop) {nm : ByteArray} {ss : List St} (h0 : P []) (hp : ∀ s ∈ ss, ∀ out, P out → P (putIn out s.name)) : ∀ k, P (sbN nm ss k)
  | 0 => h0
  | k + 1 => sbR_inv P ss hp _ (sbN_inv P h0 hp k)
theorem sbN_srt (nm : ByteArray) (ss : List St) (k : Nat) : Srt (sbN nm ss k) := sbN_inv Srt srt_nil (fun _ _ _ h => putIn_srt h) k
theorem sbN_sub {nm : ByteArray} {ss : List St} {k : Nat} : ∀ x ∈ sbN nm ss k, x ∈ names ss := sbN_inv (fun o => ∀ x ∈ o, x ∈ names ss) (by simp) (fun s hs out h x hx => by
  rcases mem_putIn.1 hx with e | e
  · rw [e]; exact List.mem_map.2 ⟨s, hs, rfl⟩
  · exact h x e) k
/-- Each one told comes after the name. -/
theorem sbK_sound {ss : List St} {nm : ByteArray} {s : St} (hs : s ∈ ss) : ∀ (l out : List ByteArray), (∀ a ∈ l, a ∈ s.after) → (∀ x ∈ out, Beh ss nm x) → ∀ x ∈ sbK s.name out l, Beh ss nm x
  | [], _, _, h => h
  | a :: r, out, hl, h => by
    simp only [sbK]
    have hr : ∀ b ∈ r, b ∈ s.after := fun b hb => hl b (List.mem_cons_of_mem _ hb)
    cases ha : has out a
    · exact sbK_sound hs r out hr h
    · refine sbK_sound hs r _ hr ?_
      intro x hx
      rcases mem_putIn.1 hx with e | e
      · rw [e]; exact .far hs (hl a (by simp)) (h a (has_mem ha))
      · exact h x e
theorem sbR_sound {ss : List St} {nm : ByteArray} : ∀ (l : List St) (out : List ByteArray), (∀ s ∈ l, s ∈ ss) → (∀ x ∈ out, Beh ss nm x) → ∀ x ∈ sbR nm out l, Beh ss nm x
  | [], _, _, h => h
  | s :: r, out, hl, h => by
    refine sbR_sound r _ (fun t ht => hl t (List.mem_cons_of_mem _ ht)) ?_
    unfold sbS
    refine sbK_sound (hl s (by simp)) _ _ (fun _ h => h) ?_
    cases ha : has s.after nm
    · exact h
    · intro x hx
      rcases mem_putIn.1 hx with e | e
      · rw [e]; exact .dir (hl s (by simp)) (has_mem ha)
      · exact h x e
theorem sbN_sound {ss : List St} {nm : ByteArray} : ∀ k, ∀ x ∈ sbN nm ss k, Beh ss nm x
  | 0 => by simp [sbN]
  | k + 1 => sbR_sound ss _ (fun _ h => h) (sbN_sound k)
/-- Who is told stays told. -/
theorem sbR_keep {nm x : ByteArray} (l : List St) {out : List ByteArray} (h : x ∈ out) : x ∈ sbR nm out l := sbR_inv (fun o => x ∈ o) l (fun _ _ _ h => mem_putIn.2 (.inr h)) out h
theorem sbK_put {n a : ByteArray} : ∀ (l out : List ByteArray), a ∈ l → a ∈ out → n ∈ sbK n out l
  | [], _, h, _ => by cases h
  | b :: r, out, h, ho => by
    simp only [sbK]
    rcases List.mem_cons.1 h with rfl | h
    · rw [has_yes ho, if_pos rfl]
      exact sbK_inv (fun o => n ∈ o) (fun _ h => mem_putIn.2 (.inr h)) r _ (mem_putIn.2 (.inl rfl))
    · split
      · exact sbK_put r _ h (mem_putIn.2 (.inr ho))
      · exact sbK_put r _ h ho
theorem sbR_put {nm a : ByteArray} {s : St} (ha : a ∈ s.after) : ∀ (l : List St) (out : List ByteArray), s ∈ l → (a = nm ∨ a ∈ out) → s.name ∈ sbR nm out l
  | [], _, h, _ => by cases h
  | t :: r, out, h, ho => by
    rcases List.mem_cons.1 h with rfl | h
    · refine sbR_keep r ?_
      unfold sbS
      rcases ho with rfl | ho
      · rw [has_yes ha, if_pos rfl]
        exact sbK_inv (fun o => s.name ∈ o) (fun _ h => mem_putIn.2 (.inr h)) _ _ (mem_putIn.2 (.inl rfl))
      · refine sbK_put _ _ ha ?_
        split
        · exact mem_putIn.2 (.inr ho)
        · exact ho
    · exact sbR_put ha r _ h (ho.imp id fun h => sbS_inv (fun o => a ∈ o) (fun _ h => mem_putIn.2 (.inr h)) h)
theorem sbN_more {nm x : ByteArray} {ss : List St} {k : Nat} (h : x ∈ sbN nm ss k) : ∀ d, x ∈ sbN nm ss (k + d)
  | 0 => h
  | d + 1 => sbR_keep ss (sbN_more h d)
theorem sbN_full {ver : Int} {ss : List St} (hf : flowOk ver ss = true) {nm : ByteArray} : ∀ (j : Nat) (hj : j < (ord ss).length), Beh ss nm (ord ss)[j] → (ord ss)[j] ∈ sbN nm ss (j + 1) := by
  intro j
  induction j using Nat.strongRecOn with
  | _ j ih =>
    intro hj h
    obtain ⟨s, hs, hn, a, ha, hb⟩ := h.step
    have hin := ord_after hf hj hs hn a ha
    obtain ⟨i, hi, e⟩ := List.mem_take_iff_getElem.1 hin
    rw [← hn]
    refine sbR_put ha ss _ hs (hb.imp id fun hb => ?_)
    have hil : i < (ord ss).length := by omega
    have := ih i (by omega) hil (by rw [e]; exact hb)
    rw [e] at this
    have h2 := sbN_more this (j - (i + 1))
    rw [show i + 1 + (j - (i + 1)) = j from by omega] at h2
    exact h2
/-- Program and reference give the same. -/
theorem sbN_eq {ver : Int} {ss : List St} (hf : flowOk ver ss = true) (nm : ByteArray) : sbN nm ss ss.length = behOf ss nm := by
  refine srt_ext (sbN_srt _ _ _) (behOf_srt hf nm) fun x => ?_
  rw [mem_behOf hf]
  refine ⟨sbN_sound _ x, fun h => ?_⟩
  obtain ⟨j, hj, rfl⟩ := List.getElem_of_mem (mem_ord hf h.mem)
  have h1 := sbN_full hf j hj h
  have hl := ord_len hf
  have h2 := sbN_more h1 (ss.length - (j + 1))
  rw [show j + 1 + (ss.length - (j + 1)) = ss.length from by omega] at h2
  exact h2
theorem behOut_spec {ver : Int} {ss : List St} {nm : ByteArray} (h : findB ver ss nm = true) : behOut ver ss nm = sbN nm ss ss.length := by
  rw [behOut_yes h, sbN_eq (findB_iff.1 h).1]

/-! ### laws -/
theorem mem_behOut {ver : Int} {ss : List St} {nm x : ByteArray} (h : findB ver ss nm = true) : x ∈ behOut ver ss nm ↔ Beh ss nm x := by
  rw [behOut_yes h, mem_behOf (findB_iff.1 h).1]
theorem behOut_len (ver : Int) (ss : List St) (nm : ByteArray) : (behOut ver ss nm).length ≤ ss.length := by
  unfold behOut behOf
  split
  · have := List.length_filter_le (fun n => has (behAll ss [nm] (ord ss)) n && !decide (n = nm)) (names ss)
    simpa [names] using this
  · simp
/-- Who is told comes after the name, or after one that is told, and is another one. -/
theorem beh_one {ver : Int} {ss : List St} {nm x : ByteArray} (h : findB ver ss nm = true) (hx : x ∈ behOut ver ss nm) :
    findB ver ss x = true ∧ (∃ a ∈ (findSt ver ss x).after, a = nm ∨ a ∈ behOut ver ss nm) ∧ x ≠ nm := by
  have hf := (findB_iff.1 h).1
  have hb := (mem_behOut h).1 hx
  have hfx : findB ver ss x = true := findB_iff.2 ⟨hf, hb.mem⟩
  refine ⟨hfx, ?_, ?_⟩
  · obtain ⟨s, hs, hn, a, ha, h2⟩ := hb.step
    rw [findSt_yes hfx, ← hn, step_of hf hs]
    exact ⟨a, ha, h2.imp id (mem_behOut h).2⟩
  · rintro rfl
    exact beh_self hf hb
theorem behOut_srt {ver : Int} {ss : List St} {nm : ByteArray} (h : findB ver ss nm = true) : Srt (behOut ver ss nm) := by
  rw [behOut_yes h]; exact behOf_srt (findB_iff.1 h).1 nm
/-- All that comes after is told. -/
theorem beh_all {ver : Int} {ss : List St} {nm : ByteArray} (h : findB ver ss nm = true) {s : St} (hs : s ∈ ss) :
    (∃ a ∈ s.after, a = nm ∨ a ∈ behOut ver ss nm) ↔ s.name ∈ behOut ver ss nm := by
  have hf := (findB_iff.1 h).1
  rw [mem_behOut h]
  constructor
  · rintro ⟨a, ha, h2⟩
    exact Beh.of_ hs ha (h2.imp id (mem_behOut h).1)
  · intro hb
    obtain ⟨t, ht, hn, a, ha, h2⟩ := hb.step
    obtain rfl := names_inj (flowOk_iff.1 hf).2.2.2.2.1 ht hs hn
    exact ⟨a, ha, h2.imp id (mem_behOut h).2⟩
/-- Who comes after stands later in the order. -/
theorem beh_order {ver : Int} {ss : List St} {nm x : ByteArray} (h : findB ver ss nm = true) (hx : x ∈ behOut ver ss nm) : place (ord ss) nm < place (ord ss) x ∧ 0 ≤ place (ord ss) nm := by
  obtain ⟨hf, hm⟩ := findB_iff.1 h
  exact ⟨beh_later hf hm ((mem_behOut h).1 hx), place_mem (mem_ord hf hm)⟩
/-- A flow whose step comes after one that comes after it. -/
def turned (ss : List St) (nm x : ByteArray) : List St := ss.map fun s => if s.name = nm then { s with after := [x] } else s
theorem turned_names (ss : List St) (nm x : ByteArray) : names (turned ss nm x) = names ss := by
  unfold names turned
  rw [List.map_map]
  refine List.map_congr_left fun s _ => ?_
  show (if s.name = nm then { s with after := [x] } else s : St).name = s.name
  split <;> rfl
theorem beh_circle {ver : Int} {ss : List St} {nm x : ByteArray} (h : findB ver ss nm = true) (hx : x ∈ behOut ver ss nm) : flowOk ver (turned ss nm x) = false := by
  obtain ⟨hf, hm⟩ := findB_iff.1 h
  cases hok : flowOk ver (turned ss nm x)
  · rfl
  · exfalso
    have key : ∀ y, Beh ss nm y → Beh (turned ss nm x) nm y := by
      intro y hy
      induction hy with
      | @dir s hs h1 =>
        have hne : ¬ s.name = nm := fun e => beh_self hf (nm := nm) (by have := Beh.dir hs h1; rw [e] at this; exact this)
        have hm2 : s ∈ turned ss nm x := List.mem_map.2 ⟨s, hs, by rw [if_neg hne]⟩
        exact .dir hm2 h1
      | @far s hs a h1 h2 ih =>
        have hne : ¬ s.name = nm := fun e => beh_self hf (nm := nm) (by have := Beh.far hs h1 h2; rw [e] at this; exact this)
        have hm2 : s ∈ turned ss nm x := List.mem_map.2 ⟨s, hs, by rw [if_neg hne]⟩
        exact .far hm2 h1 ih
    obtain ⟨s, hs, hn⟩ := List.mem_map.1 hm
    have hn : s.name = nm := hn
    have hm3 : ({ s with after := [x] } : St) ∈ turned ss nm x := List.mem_map.2 ⟨s, hs, by rw [if_pos hn]⟩
    have hb : Beh (turned ss nm x) nm nm := by
      have := Beh.far hm3 (a := x) (by simp) (key x ((mem_behOut h).1 hx))
      rw [← hn]
      rw [← hn] at this
      exact this
    exact beh_self hok hb
end Go.Proofs.Ytdjgpoenlmhonaa
