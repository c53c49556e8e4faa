/- Plain laws on a line of which one byte is another: it is no line. No program. No condition. -/
import Derived.Test.YtfodedakhnoplaaDoorTextPlain
namespace Go.Proofs.YtfodedakhnoplaaDoor
set_option linter.unusedVariables false
set_option maxRecDepth 100000

theorem step_inj {c d b : Nat} (hc : c < 997) (hd : d < 997) (h : (263 * c + b) % 997 = (263 * d + b) % 997) : c = d := by omega
theorem sumGo_inj : ∀ (l : List UInt8) (c d : Nat), c < 997 → d < 997 → sumGo c l = sumGo d l → c = d
  | [], _, _, _, _, h => h
  | b :: l, c, d, hc, hd, h => step_inj hc hd (sumGo_inj l _ _ (Nat.mod_lt _ (by decide)) (Nat.mod_lt _ (by decide)) h)
/-- A byte more by one is another check. -/
theorem sumGo_other : ∀ (l : List UInt8) (i : Nat) (c : Nat) (x y : UInt8), c < 997 → l[i]? = some x → y.toNat = x.toNat + 1 → sumGo c (l.set i y) ≠ sumGo c l
  | [], i, c, x, y, hc, hx, hy => by simp at hx
  | b :: l, 0, c, x, y, hc, hx, hy => by
    simp at hx
    subst hx
    intro h
    have := sumGo_inj l _ _ (Nat.mod_lt _ (by decide)) (Nat.mod_lt _ (by decide)) h
    omega
  | b :: l, i + 1, c, x, y, hc, hx, hy => sumGo_other l i _ x y (Nat.mod_lt _ (by decide)) (by simpa using hx) hy
/-- From the last blank on. -/
theorem cut_last {a b x y : List UInt8} (hx : ∀ c ∈ x, c ≠ 32) (hy : ∀ c ∈ y, c ≠ 32) (h : a ++ 32 :: x = b ++ 32 :: y) : a = b ∧ x = y := by
  have h' := congrArg List.reverse h
  simp only [List.reverse_append, List.reverse_cons, List.append_assoc, List.singleton_append] at h'
  obtain ⟨h1, h2⟩ := cut_blank _ _ _ _ (fun c hc => hx c (List.mem_reverse.1 hc)) (fun c hc => hy c (List.mem_reverse.1 hc)) h'
  exact ⟨List.reverse_inj.1 h2, List.reverse_inj.1 h1⟩
theorem dec_val : ∀ n, n < 997 → (decB n).data.toList.foldl (fun a (b : UInt8) => 10 * a + (b.toNat - 48)) 0 = n := by
  have one : ∀ m, m < 10 → (UInt8.ofNat (48 + m)).toNat - 48 = m := by decide
  intro n
  induction n using Nat.strongRecOn with
  | _ n ih =>
    intro hn
    by_cases h : n < 10
    · rw [decB_one h]
      show 10 * 0 + ((UInt8.ofNat (48 + n)).toNat - 48) = n
      rw [one n h]; omega
    · rw [decB_more h, toList_append, List.foldl_append, ih (n / 10) (by omega) (by omega)]
      show 10 * (n / 10) + ((UInt8.ofNat (48 + n % 10)).toNat - 48) = n
      rw [one _ (by omega)]; omega
theorem dec_same {n m : Nat} (hn : n < 997) (hm : m < 997) (h : (decB n).data.toList = (decB m).data.toList) : n = m := by
  rw [← dec_val n hn, ← dec_val m hm, h]
theorem dec_byte (n : Nat) : ∀ b ∈ (decB n).data.toList, 48 ≤ b.toNat ∧ b.toNat ≤ 57 := by
  induction n using Nat.strongRecOn with
  | _ n ih =>
    have hd : ∀ m, m < 10 → 48 ≤ (UInt8.ofNat (48 + m)).toNat ∧ (UInt8.ofNat (48 + m)).toNat ≤ 57 := by decide
    by_cases h : n < 10
    · rw [decB_one h]
      intro b hb
      have hb : b ∈ [UInt8.ofNat (48 + n)] := hb
      rw [List.mem_singleton] at hb
      subst hb; exact hd n h
    · rw [decB_more h]
      intro b hb
      rw [toList_append] at hb
      rcases List.mem_append.1 hb with hb | hb
      · exact ih (n / 10) (by omega) b hb
      · have hb : b ∈ [UInt8.ofNat (48 + n % 10)] := hb
        rw [List.mem_singleton] at hb
        subst hb; exact hd _ (by omega)
theorem name_byte {s : ByteArray} (h : nameOk s = true) : ∀ b ∈ s.data.toList, 97 ≤ b.toNat ∧ b.toNat ≤ 122 := by
  intro b hb
  obtain ⟨k, hk, rfl⟩ := List.getElem_of_mem hb
  have hk' : k < s.size := by rw [size_toList] at hk; exact hk
  by_cases hbad : s[k].toNat < 97 ∨ 122 < s[k].toNat
  · have := allLow_bad hk' hbad
    unfold nameOk at h
    rw [this] at h
    simp at h
  · have : s.data.toList[k] = s[k] := by simp; rfl
    rw [this]; omega
theorem kind_byte (k : Int) : ∀ b ∈ (kindB k).data.toList, b.toNat ≤ 122 := by
  unfold kindB didB failedB undidB
  split
  · decide
  · split <;> decide
theorem line_byte {n : Nat} {k : Int} {nm : ByteArray} (h : nameOk nm = true) : ∀ b ∈ (lineB n k nm).data.toList, b.toNat ≤ 122 := by
  rw [line_list]
  intro b hb
  simp only [List.mem_append, List.mem_cons] at hb
  rcases hb with hb | rfl | hb | rfl | hb | rfl | hb
  · have := dec_byte n b hb; omega
  · decide
  · exact kind_byte k b hb
  · decide
  · exact (name_byte h b hb).2
  · decide
  · have := dec_byte _ b hb; omega
/-- One byte more by one: no line. -/
theorem line_damage {n m : Nat} {k j : Int} {nm nm' : ByteArray} (h : nameOk nm = true) (i : Nat) (x y : UInt8) (hx : (lineB n k nm).data.toList[i]? = some x) (hy : y.toNat = x.toNat + 1) :
    (lineB m j nm').data.toList ≠ (lineB n k nm).data.toList.set i y := by
  have hl : ∀ n k nm, (lineB n k nm).data.toList = (bodyB n k nm).data.toList ++ 32 :: (decB (sumB (bodyB n k nm))).data.toList := by
    intro n k nm
    have hs : spB.data.toList = [32] := rfl
    unfold lineB
    rw [toList_append, toList_append, hs]
    simp only [List.append_assoc, List.cons_append, List.nil_append]
  intro e
  rw [hl n k nm] at hx
  by_cases h1 : i < (bodyB n k nm).data.toList.length
  · rw [List.getElem?_append_left h1] at hx
    rw [hl, hl, List.set_append_left _ _ h1] at e
    obtain ⟨e1, e2⟩ := cut_last (dec_blank _) (dec_blank _) e
    have hs := dec_same (sumB_lt _) (sumB_lt _) e2
    unfold sumB at hs
    rw [e1] at hs
    exact sumGo_other _ i 17 x y (by decide) hx hy hs
  · rw [List.getElem?_append_right (by omega)] at hx
    cases hi : i - (bodyB n k nm).data.toList.length with
    | zero =>
      rw [hi] at hx
      simp at hx
      subst hx
      rw [hl n k nm, List.set_append_right _ _ (by omega), hi, List.set_cons_zero] at e
      have hb : (bodyB n k nm).data.toList = (decB n).data.toList ++ 32 :: ((kindB k).data.toList ++ 32 :: nm.data.toList) := by
        have hs : spB.data.toList = [32] := rfl
        unfold bodyB
        simp only [toList_append, hs, List.append_assoc, List.cons_append, List.nil_append]
      rw [hb, line_list] at e
      simp only [List.append_assoc, List.cons_append] at e
      obtain ⟨e1, e2⟩ := cut_blank _ _ _ _ (dec_blank _) (dec_blank _) e
      obtain ⟨e3, e4⟩ := cut_blank _ _ _ _ (kind_blank _) (kind_blank _) e2
      have hm : (32 : UInt8) ∈ nm.data.toList ++ y :: (decB (sumB (bodyB n k nm))).data.toList := by rw [← e4]; simp
      simp only [List.mem_append, List.mem_cons] at hm
      rcases hm with hm | hm | hm
      · have := (name_byte h _ hm).1
        simp at this
      · rw [← hm] at hy; exact absurd hy (by decide)
      · exact dec_blank _ _ hm rfl
    | succ q =>
      rw [hi] at hx
      simp only [List.getElem?_cons_succ] at hx
      rw [hl n k nm, List.set_append_right _ _ (by omega), hi, List.set_cons_succ, hl] at e
      have hxm := dec_byte _ x (List.mem_of_getElem? hx)
      have hnb : ∀ c ∈ (decB (sumB (bodyB n k nm))).data.toList.set q y, c ≠ 32 := by
        intro c hc
        rcases List.mem_or_eq_of_mem_set hc with hc | rfl
        · exact dec_blank _ c hc
        · intro hc
          rw [hc] at hy
          simp at hy
          omega
      obtain ⟨e1, e2⟩ := cut_last (dec_blank _) hnb e
      have hs : sumB (bodyB m j nm') = sumB (bodyB n k nm) := by unfold sumB; rw [e1]
      rw [hs] at e2
      have hxy := congrArg (fun l : List UInt8 => l[q]?) e2
      simp only [hx] at hxy
      rw [List.getElem?_set] at hxy
      simp at hxy
      have hq : q < (decB (sumB (bodyB n k nm))).data.size := by
        have := (List.getElem?_eq_some_iff.1 hx).1
        simpa using this
      have := hxy.2 
      rw [this] at hy
      omega
theorem text_damage {n k : Int} {nm : ByteArray} (h : lineOk n k nm = true) (i : Nat) (hi : i < (textB n k nm).size) (y : UInt8) (hy : y.toNat = (textB n k nm)[i].toNat + 1) (s : ByteArray) (hs : s.data.toList = (textB n k nm).data.toList.set i y) :
    ∀ m j nm', textB m j nm' ≠ s := by
  intro m j nm' e
  have hx : (textB n k nm).data.toList[i]? = some (textB n k nm)[i] := by
    rw [List.getElem?_eq_getElem (by rw [size_toList]; exact hi)]
    simp; rfl
  have hT := textB_yes h
  obtain ⟨_, _, h3⟩ := lineOk_parts h
  obtain ⟨_, _, h4⟩ := evOk_parts h3
  have hs' : s.data.toList = (lineB n.toNat k nm).data.toList.set i y := by rw [hs, hT]
  cases ho : lineOk m j nm'
  · rw [textB_no ho] at e
    rw [← e] at hs
    have := congrArg List.length hs
    rw [List.length_set, size_toList, size_toList] at this
    have h0 : (⟨#[]⟩ : ByteArray).size = 0 := rfl
    omega
  · rw [textB_yes ho] at e
    rw [← e] at hs'
    exact line_damage h4 i _ y (by rw [← hT]; exact hx) hy hs'
theorem text_byte {n k : Int} {nm : ByteArray} (h : lineOk n k nm = true) (i : Nat) (hi : i < (textB n k nm).size) : (textB n k nm)[i].toNat ≤ 122 := by
  have hx : (textB n k nm).data.toList[i]? = some (textB n k nm)[i] := by
    rw [List.getElem?_eq_getElem (by rw [size_toList]; exact hi)]
    simp; rfl
  obtain ⟨_, _, h3⟩ := lineOk_parts h
  obtain ⟨_, _, h4⟩ := evOk_parts h3
  have hm := List.mem_of_getElem? hx
  generalize (textB n k nm)[i] = b at hm ⊢
  rw [textB_yes h] at hm
  exact line_byte h4 b hm
end Go.Proofs.YtfodedakhnoplaaDoor
