/- Plain definitions and laws on the lines of events. No program. No condition. -/
import Derived.Test.YtfodedakhnoplaaDoorEvWords
import Derived.Lib.ItoaNum
namespace Go.Proofs.YtfodedakhnoplaaDoor
set_option linter.unusedVariables false
set_option maxRecDepth 100000

/-- A number's digits. -/
def decB (n : Nat) : ByteArray := ⟨(Lib.decDigits n).toArray⟩
theorem decB_one {n : Nat} (h : n < 10) : decB n = ⟨#[UInt8.ofNat (48 + n)]⟩ := by unfold decB; rw [Lib.decDigits_one h]
theorem decB_more {n : Nat} (h : ¬ n < 10) : decB n = decB (n / 10) ++ ⟨#[UInt8.ofNat (48 + n % 10)]⟩ := by
  unfold decB
  rw [Lib.decDigits, dif_neg h]
  apply ByteArray.ext
  simp [ByteArray.data_append]
theorem decB_size (n : Nat) : (decB n).size ≤ n + 1 := by
  induction n using Nat.strongRecOn with
  | _ n ih =>
    by_cases h : n < 10
    · rw [decB_one h]; show 1 ≤ n + 1; omega
    · have := ih (n / 10) (by omega)
      rw [decB_more h, ByteArray.size_append, show (⟨#[UInt8.ofNat (48 + n % 10)]⟩ : ByteArray).size = 1 from rfl]
      omega
/-- The check of a text. -/
def sumGo : Nat → List UInt8 → Nat
  | c, [] => c
  | c, b :: r => sumGo ((263 * c + b.toNat) % 997) r
def sumB (s : ByteArray) : Nat := sumGo 17 s.data.toList
theorem sumGo_append : ∀ (l : List UInt8) (c : Nat) (r : List UInt8), sumGo c (l ++ r) = sumGo (sumGo c l) r
  | [], _, _ => rfl
  | b :: l, c, r => sumGo_append l _ r
theorem sumGo_lt : ∀ (l : List UInt8) (c : Nat), c < 997 → sumGo c l < 997
  | [], _, h => h
  | _ :: l, _, _ => sumGo_lt l _ (Nat.mod_lt _ (by decide))
theorem sumB_lt (s : ByteArray) : sumB s < 997 := sumGo_lt _ _ (by decide)
theorem sum_next {s : ByteArray} {k : Nat} (h : k < s.size) : sumGo 17 (s.data.toList.take (k + 1)) = (263 * sumGo 17 (s.data.toList.take k) + s[k].toNat) % 997 := by
  have hl : k < s.data.toList.length := by rw [size_toList]; exact h
  rw [List.take_succ_eq_append_getElem hl, sumGo_append]
  have : s.data.toList[k] = s[k] := by simp; rfl
  rw [this]
  rfl
def didB : ByteArray := ⟨#[100, 105, 100]⟩
def failedB : ByteArray := ⟨#[102, 97, 105, 108, 101, 100]⟩
def undidB : ByteArray := ⟨#[117, 110, 100, 105, 100]⟩
def kindB (k : Int) : ByteArray := if k = 1 then didB else if k = 2 then failedB else undidB
theorem kindB_size (k : Int) : (kindB k).size ≤ 6 := by unfold kindB; split <;> (try split) <;> decide
def spB : ByteArray := ⟨#[32]⟩
/-- The line of an event, without its check. -/
def bodyB (n : Nat) (k : Int) (nm : ByteArray) : ByteArray := decB n ++ spB ++ kindB k ++ spB ++ nm
def lineB (n : Nat) (k : Int) (nm : ByteArray) : ByteArray := bodyB n k nm ++ spB ++ decB (sumB (bodyB n k nm))
/-- An event has a line. -/
def lineOk (n k : Int) (nm : ByteArray) : Bool := decide (1 ≤ n) && decide (n ≤ 20) && evOk ⟨k, nm⟩
def textB (n k : Int) (nm : ByteArray) : ByteArray := if lineOk n k nm then lineB n.toNat k nm else ⟨#[]⟩
theorem textB_yes {n k : Int} {nm : ByteArray} (h : lineOk n k nm = true) : textB n k nm = lineB n.toNat k nm := by unfold textB; rw [if_pos h]
theorem textB_no {n k : Int} {nm : ByteArray} (h : lineOk n k nm = false) : textB n k nm = ⟨#[]⟩ := by unfold textB; rw [if_neg (by rw [h]; simp)]
theorem lineOk_parts {n k : Int} {nm : ByteArray} (h : lineOk n k nm = true) : 1 ≤ n ∧ n ≤ 20 ∧ evOk ⟨k, nm⟩ = true := by
  unfold lineOk at h
  simp only [Bool.and_eq_true, decide_eq_true_eq] at h
  exact ⟨h.1.1, h.1.2, h.2⟩
theorem evOk_parts {k : Int} {nm : ByteArray} (h : evOk ⟨k, nm⟩ = true) : 1 ≤ k ∧ k ≤ 3 ∧ nameOk nm = true := by
  unfold evOk at h
  simp only [Bool.and_eq_true, decide_eq_true_eq] at h
  exact ⟨h.1.1, h.1.2, h.2⟩
theorem bodyB_size (n : Nat) (k : Int) (nm : ByteArray) : (bodyB n k nm).size ≤ n + 9 + nm.size := by
  unfold bodyB
  have h1 := decB_size n
  have h2 := kindB_size k
  simp only [ByteArray.size_append]
  have : spB.size = 1 := rfl
  omega

theorem dec_blank (n : Nat) : ∀ b ∈ (decB n).data.toList, b ≠ 32 := by
  induction n using Nat.strongRecOn with
  | _ n ih =>
    have hd : ∀ m, m < 10 → UInt8.ofNat (48 + m) ≠ 32 := by decide
    by_cases h : n < 10
    · rw [decB_one h]
      intro b hb
      have hb : b ∈ [UInt8.ofNat (48 + n)] := hb
      rw [List.mem_singleton] at hb
      subst hb; exact hd n h
    · rw [decB_more h]
      intro b hb
      rw [toList_append] at hb
      rcases List.mem_append.1 hb with hb | hb
      · exact ih (n / 10) (by omega) b hb
      · have hb : b ∈ [UInt8.ofNat (48 + n % 10)] := hb
        rw [List.mem_singleton] at hb
        subst hb; exact hd _ (by omega)
theorem kind_blank (k : Int) : ∀ b ∈ (kindB k).data.toList, b ≠ 32 := by
  unfold kindB didB failedB undidB
  split
  · decide
  · split <;> decide
/-- Up to the first blank. -/
theorem cut_blank : ∀ (a b x y : List UInt8), (∀ c ∈ a, c ≠ 32) → (∀ c ∈ b, c ≠ 32) → a ++ 32 :: x = b ++ 32 :: y → a = b ∧ x = y
  | [], [], x, y, _, _, h => by simpa using h
  | [], c :: b, x, y, _, hb, h => by
    simp at h
    exact absurd h.1.symm (hb c (by simp))
  | c :: a, [], x, y, ha, _, h => by
    simp at h
    exact absurd h.1 (ha c (by simp))
  | c :: a, d :: b, x, y, ha, hb, h => by
    simp only [List.cons_append, List.cons.injEq] at h
    obtain ⟨rfl, h⟩ := h
    obtain ⟨rfl, rfl⟩ := cut_blank a b x y (fun c hc => ha c (by simp [hc])) (fun c hc => hb c (by simp [hc])) h
    exact ⟨rfl, rfl⟩
theorem line_list (n : Nat) (k : Int) (nm : ByteArray) : (lineB n k nm).data.toList = (decB n).data.toList ++ 32 :: ((kindB k).data.toList ++ 32 :: (nm.data.toList ++ 32 :: (decB (sumB (bodyB n k nm))).data.toList)) := by
  have hs : spB.data.toList = [32] := rfl
  have hb : (bodyB n k nm).data.toList = (decB n).data.toList ++ ([32] ++ ((kindB k).data.toList ++ ([32] ++ nm.data.toList))) := by
    unfold bodyB
    simp only [toList_append, hs, List.append_assoc]
  unfold lineB
  rw [toList_append, toList_append, hs, hb]
  simp only [List.append_assoc, List.cons_append, List.nil_append]
theorem dec_inj : ∀ n, n < 21 → ∀ m, m < 21 → decB n = decB m → n = m := by
  intro n hn m hm h
  have h' : Lib.decDigits n = Lib.decDigits m := by
    have := congrArg (fun b : ByteArray => b.data.toList) h
    simpa [decB] using this
  by_cases h1 : n < 10 <;> by_cases h2 : m < 10
  · rw [Lib.decDigits_one h1, Lib.decDigits_one h2] at h'
    have : ∀ a, a < 10 → ∀ b, b < 10 → UInt8.ofNat (48 + a) = UInt8.ofNat (48 + b) → a = b := by decide
    exact this n h1 m h2 (by simpa using h')
  · rw [Lib.decDigits_one h1, Lib.decDigits_two h2 (by omega)] at h'; simp at h'
  · rw [Lib.decDigits_two h1 (by omega), Lib.decDigits_one h2] at h'; simp at h'
  · rw [Lib.decDigits_two h1 (by omega), Lib.decDigits_two h2 (by omega)] at h'
    have hd : ∀ a, a < 10 → ∀ b, b < 10 → UInt8.ofNat (48 + a) = UInt8.ofNat (48 + b) → a = b := by decide
    simp only [List.cons.injEq, and_true] at h'
    have e1 := hd (n / 10) (by omega) (m / 10) (by omega) h'.1
    have e2 := hd (n % 10) (by omega) (m % 10) (by omega) h'.2
    omega
theorem line_inj {n m : Nat} {k j : Int} {nm nm' : ByteArray} (h : lineB n k nm = lineB m j nm') : decB n = decB m ∧ kindB k = kindB j := by
  have h' := congrArg (fun b : ByteArray => b.data.toList) h
  simp only [line_list] at h'
  obtain ⟨h1, h2⟩ := cut_blank _ _ _ _ (dec_blank n) (dec_blank m) h'
  obtain ⟨h3, _⟩ := cut_blank _ _ _ _ (kind_blank k) (kind_blank j) h2
  have ext : ∀ a b : ByteArray, a.data.toList = b.data.toList → a = b := fun a b e => by
    cases a; cases b
    simpa using e
  exact ⟨ext _ _ h1, ext _ _ h3⟩
theorem line_some (n : Nat) (k : Int) (nm : ByteArray) : lineB n k nm ≠ ⟨#[]⟩ := by
  intro h
  have := congrArg (fun b : ByteArray => b.data.toList) h
  simp only [line_list] at this
  simp at this
/-- Another number has another line. -/
theorem text_number {n k : Int} {nm : ByteArray} (h : lineOk n k nm = true) : textB (n + 1) k nm ≠ textB n k nm := by
  obtain ⟨h1, h2, h3⟩ := lineOk_parts h
  rw [textB_yes h]
  cases ho : lineOk (n + 1) k nm
  · rw [textB_no ho]; exact fun e => line_some _ _ _ e.symm
  · rw [textB_yes ho]
    obtain ⟨_, h5, _⟩ := lineOk_parts ho
    intro e
    have := dec_inj _ (by omega) _ (by omega) (line_inj e).1
    omega
/-- Another kind has another line. -/
theorem text_kind {n k : Int} {nm : ByteArray} (h : lineOk n k nm = true) : textB n (k + 1) nm ≠ textB n k nm := by
  obtain ⟨h1, h2, h3⟩ := lineOk_parts h
  obtain ⟨k1, k2, _⟩ := evOk_parts h3
  rw [textB_yes h]
  cases ho : lineOk n (k + 1) nm
  · rw [textB_no ho]; exact fun e => line_some _ _ _ e.symm
  · rw [textB_yes ho]
    obtain ⟨_, _, h6⟩ := lineOk_parts ho
    obtain ⟨_, k4, _⟩ := evOk_parts h6
    intro e
    have hk := (line_inj e).2
    rcases (show k = 1 ∨ k = 2 by omega) with rfl | rfl
    · exact absurd hk (by decide)
    · exact absurd hk (by decide)
end Go.Proofs.YtfodedakhnoplaaDoor
