/- Contracts of JournalText, program and reference. Condition: the listed variables lie as the text lays them; lengths as Go has them. -/
import Derived.Test.YtfodedakhnoplaaDoorTextEv
import Derived.Test.YtfodedakhnoplaaDoorTextSpec
import Derived.Test.YtfodedakhnoplaaDoorShelfJ
import Derived.Test.YtfodedakhnoplaaDoorEvents
namespace Go.Proofs.YtfodedakhnoplaaDoor
set_option linter.unusedVariables false
set_option maxRecDepth 100000
open Go.RowKit

/-- The lines of the first k events. -/
def jourL (es : List Ev) : Nat → List UInt8
  | 0 => []
  | k + 1 => jourL es k ++ ((textB ((k : Int) + 1) (es.getD k ⟨0, ⟨#[]⟩⟩).kind (es.getD k ⟨0, ⟨#[]⟩⟩).name).data.toList ++ [10])
def jour (es : List Ev) : ByteArray := if evsOk es then ⟨(jourL es es.length).toArray⟩ else ⟨#[]⟩
theorem jour_yes {es : List Ev} (h : evsOk es = true) : jour es = ⟨(jourL es es.length).toArray⟩ := by unfold jour; rw [if_pos h]
theorem jour_no {es : List Ev} (h : evsOk es = false) : jour es = ⟨#[]⟩ := by unfold jour; rw [if_neg (by rw [h]; simp)]
theorem textB_size (n k : Int) (nm : ByteArray) : (textB n k nm).size ≤ 1100 := by
  cases hok : lineOk n k nm
  · rw [textB_no hok]; show 0 ≤ 1100; omega
  · rw [textB_yes hok]
    obtain ⟨h1, h20, hev⟩ := lineOk_parts hok
    obtain ⟨_, _, hnm⟩ := evOk_parts hev
    have hn5 := (nameOk_size hnm).2
    have h1 := bodyB_size n.toNat k nm
    have h2 := sumB_lt (bodyB n.toNat k nm)
    have h3 := decB_size (sumB (bodyB n.toNat k nm))
    unfold lineB
    simp only [ByteArray.size_append]
    have : spB.size = 1 := rfl
    omega
theorem jourL_len (es : List Ev) : ∀ k, (jourL es k).length ≤ 1101 * k
  | 0 => by simp [jourL]
  | k + 1 => by
    have h1 := jourL_len es k
    have h2 := textB_size ((k : Int) + 1) (es.getD k ⟨0, ⟨#[]⟩⟩).kind (es.getD k ⟨0, ⟨#[]⟩⟩).name
    unfold jourL
    rw [List.length_append, List.length_append, size_toList]
    simp only [List.length_singleton]
    omega
theorem jourL_next {es : List Ev} {k : Nat} (h : k < es.length) : jourL es (k + 1) = jourL es k ++ ((textB ((k : Int) + 1) es[k].kind es[k].name).data.toList ++ [10]) := by
  show jourL es k ++ _ = _
  rw [show es.getD k ⟨0, ⟨#[]⟩⟩ = es[k] by simp [h]]
theorem evsOk_len {es : List Ev} (h : evsOk es = true) : es.length ≤ 20 := by
  unfold evsOk at h
  simp only [Bool.and_eq_true, decide_eq_true_eq] at h
  exact h.2

theorem isB_below {T E : TypeId} {B b : Nat} {bs : List Value} {w w' : World} (h : Lib.IsBuilder T E B b bs w) (hb : Below w.heap.size w w') : Lib.IsBuilder T E B b bs w' := by
  have go : ∀ p, Lib.BuilderAt T E B b p bs w → Lib.BuilderAt T E B b p bs w' := by
    rintro p ⟨h1, v, h2, h3, h4⟩
    exact ⟨h1, v, (hb.block b (Array.getElem?_eq_some_iff.1 h2).1).trans h2, own_below h3 hb, h4⟩
  exact h.elim (fun h => .inl (go _ h)) (fun h => .inr (go _ h))

theorem write_any (b : Nat) (l : List UInt8) (s : ByteArray) (w : World) (h : Lib.IsBuilder 60 5 b b (Lib.byteCells l) w) (hl : l.length + s.size ≤ 1000000) (hb : b ≤ w.heap.size) :
    Calls Tryd.prog 33 #[.pointer (some ⟨b, 0, none⟩), .string s] w fun e w' => e = .returned (.tuple #[.int .i64 s.size, .nilIface]) ∧ Lib.IsBuilder 60 5 b b (Lib.byteCells (l ++ s.data.toList)) w' ∧ Below b w w' := by
  have K : Calls Tryd.prog 33 #[.pointer (some ⟨b, 0, none⟩), .string s] w _ := Any.Builder_WriteString Tryd.lays166 Tryd.extra166 b b (Lib.byteCells l) s w h (by rw [Lib.byteCells_length]; omega) hb
  refine K.mono ?_
  rintro e w' ⟨rfl, h1, h2⟩
  refine ⟨rfl, .inr ?_, h2⟩
  rw [Lib.byteCells_append, ← Lib.strCells_eq]
  exact h1
theorem string_any (b : Nat) (l : List UInt8) (w : World) (h : Lib.IsBuilder 60 5 b b (Lib.byteCells l) w) (hb : b ≤ w.heap.size) :
    Calls Tryd.prog 34 #[.pointer (some ⟨b, 0, none⟩)] w fun e w' => e = .returned (.string ⟨l.toArray⟩) ∧ Below b w w' := by
  have K : Calls Tryd.prog 34 #[.pointer (some ⟨b, 0, none⟩)] w _ := Any.Builder_String_any Tryd.lays169 Tryd.extra169 b b l w h hb
  exact K

set_option maxHeartbeats 4000000 in
theorem iJournalText_any (A : Option Addr) (c : Nat) (es : List Ev) (w : World) (B B0 : Nat) (h : Evs w B0 A c es) (hL : LaidF B w) (hB : B ≤ w.heap.size) :
    Calls Tryd.prog 16 #[.slice A es.length c] w fun e w' => e = .returned (.string (jour es)) ∧ Below w.heap.size w w' := by
  have hl := h.len
  have hc := h.cap
  go_enter Tryd.func16, Tryd.ntmps16
  go_wp2_with fail
  (with_reducible refine (iEventsValid_any A c es _ _ h).mono ?_)
  rintro e w1 ⟨rfl, hb1⟩
  cases hok : evsOk es
  · have Hj := Lib.hid (jour_no hok)
    clear hok
    go_wp2_with fail
    go_ret
    exact ⟨by rw [Hj.out]; rfl, hb1⟩
  · have Hj := Lib.hid (jour_yes hok)
    have hel := evsOk_len hok
    have b0 := (Lib.fresh_isBuilder 60 5 w1)
    have hb2 : Below w.heap.size w (w1.alloc (.cells #[.pointer none, .slice none 0 0] 60)) := hb1.alloc hb1.size _
    have hw1 := hb1.size
    clear hok
    go_wp2_with fail
    go_loopw [11] (fun i wr => ∃ k : Nat, k ≤ es.length ∧ i = .int .i64 k ∧ Below w.heap.size w wr ∧ w1.heap.size ≤ wr.heap.size ∧ Lib.IsBuilder 60 5 w1.heap.size w1.heap.size (Lib.byteCells (jourL es k)) wr) (fun i _ => es.length - (intOf i).toNat)
    case atStart => exact ⟨0, Nat.zero_le _, rfl, hb2, by simp, b0⟩
    case round =>
      clear b0 hb2
      obtain ⟨k, hk, rfl, hb, hwr, hib⟩ := hrel
      have hjl := jourL_len es k
      by_cases hlt : k < es.length
      · obtain ⟨ad, rfl, had, hcell, hcell1⟩ := (h.then_ hb).at_ hlt
        have hsz := h.lens k hlt
        have hi0 : (0 : Int) ≤ k := by omega
        have hi1 : (k : Int) < es.length := by omega
        have HN := Lib.hid (jourL_next hlt)
        obtain ⟨ev, hev⟩ : ∃ ev, ev = es[k] := ⟨_, rfl⟩
        rw [← hev] at hcell hcell1 hsz HN
        clear hev
        have hts := textB_size ((k : Int) + 1) ev.kind ev.name
        have bx : Below wr.heap.size wr (wr.alloc (.cells #[.int .i64 ev.kind, .string ev.name] 26)) := (Below.refl _ _).alloc (Nat.le_refl _) _
        have bw := bthen hb bx
        have KE0 := iEventText_any ((k : Int) + 1) ev.kind ev.name _ B (hL.on (bw.mono hB)) (by have := bw.size; omega) hsz
        obtain ⟨T, hT⟩ : ∃ T, T = textB ((k : Int) + 1) ev.kind ev.name := ⟨_, rfl⟩
        rw [← hT] at KE0 hts HN
        have KE := Lib.hid KE0
        have Hib := Lib.hid (isB_below hib bx)
        have hbx := Lib.hid bx
        clear hT KE0 hib bx bw
        go_wp2_with fail
        (with_reducible refine KE.out.mono ?_)
        rintro e w5 ⟨rfl, hb5⟩
        have hb25 := bthen hbx.out hb5
        have hns : (T ++ ⟨#[10]⟩ : ByteArray).size = T.size + 1 := by rw [ByteArray.size_append]; rfl
        have KW := Lib.hid (write_any w1.heap.size (jourL es k) (T ++ ⟨#[10]⟩) w5 (isB_below Hib.out hb5) (by rw [hns]; omega) (by have := hb25.size; omega))
        have HE := Lib.hid (show jourL es k ++ (T ++ (⟨#[10]⟩ : ByteArray)).data.toList = jourL es (k + 1) by rw [HN.out, toList_append])
        have hz5 := hb25.size
        clear hns Hib KE HN
        go_wp2_with fail
        (with_reducible refine KW.out.mono ?_)
        rintro e w6 ⟨rfl, hb6, hw6⟩
        rw [HE.out] at hb6
        go_wp2_with fail
        go_roundw
        case rel => exact ⟨k + 1, by omega, by go_num, (bthen hb hb25).trans (hw6.mono hw1), by have := hw6.size; omega, hb6⟩
        case measure => simp [intOf]; omega
      · have hke : k = es.length := by omega
        subst hke
        have KS := Lib.hid (string_any w1.heap.size (jourL es es.length) wr hib hwr)
        clear hib
        go_wp2_with fail
        (with_reducible refine KS.out.mono ?_)
        rintro e w6 ⟨rfl, hw6⟩
        go_wp2_with fail
        go_ret
        exact ⟨by rw [Hj.out]; rfl, hb.trans (hw6.mono hw1)⟩

set_option maxHeartbeats 4000000 in
theorem sJournalText_any (A : Option Addr) (c : Nat) (es : List Ev) (w : World) (B0 : Nat) (h : Evs w B0 A c es) :
    Calls Tryd.prog 14 #[.slice A es.length c] w fun e w' => e = .returned (.string (jour es)) ∧ Below w.heap.size w w' := by
  have hl := h.len
  have hc := h.cap
  cases hok : evsOk es
  · have Hj := Lib.hid (jour_no hok)
    have KV := Lib.hid (sEventsValid_any A c es w B0 h)
    rw [hok] at KV
    clear hok
    by_cases h0 : 0 < es.length
    · have hi1 : (0 : Int) < es.length := by omega
      go_enter Tryd.func14, Tryd.ntmps14
      go_wp2_with fail
      go_loopw [3, 4] (fun o i wr => i = .int .i64 0 ∧ o = .string ⟨#[]⟩ ∧ w = wr) (fun _ i _ => 0)
      case atStart => exact ⟨rfl, rfl, rfl⟩
      case round =>
        obtain ⟨rfl, rfl, rfl⟩ := hrel
        go_wp2_with fail
        (with_reducible refine KV.out.mono ?_)
        rintro e w' ⟨rfl, rfl⟩
        go_wp2_with fail
        go_ret
        exact ⟨by rw [Hj.out]; rfl, Below.refl _ _⟩
    · obtain rfl : es = [] := List.eq_nil_of_length_eq_zero (by omega)
      go_enter Tryd.func14, Tryd.ntmps14
      go_wp2_with fail
      go_loopw [3, 4] (fun o i wr => i = .int .i64 0 ∧ o = .string ⟨#[]⟩ ∧ w = wr) (fun _ i _ => 0)
      case atStart => exact ⟨rfl, rfl, rfl⟩
      case round =>
        obtain ⟨rfl, rfl, rfl⟩ := hrel
        go_wp2_with fail
        go_ret
        exact ⟨by rw [Hj.out]; rfl, Below.refl _ _⟩
  · have Hj := Lib.hid (jour_yes hok)
    have hel := evsOk_len hok
    go_enter Tryd.func14, Tryd.ntmps14
    go_wp2_with fail
    go_loopw [3, 4] (fun o i wr => ∃ (k : Nat) (s : ByteArray), k ≤ es.length ∧ i = .int .i64 k ∧ o = .string s ∧ Below w.heap.size w wr ∧ Hid (s.data.toList = jourL es k)) (fun _ i _ => es.length - (intOf i).toNat)
    case atStart => exact ⟨0, ⟨#[]⟩, Nat.zero_le _, rfl, rfl, Below.refl _ _, Lib.hid rfl⟩
    case round =>
      obtain ⟨k, s, hk, rfl, rfl, hb, hs⟩ := hrel
      have hjl := jourL_len es k
      have hss : s.size ≤ 30000 := by rw [← size_toList, hs.out]; omega
      have h' := h.then_ hb
      have KV := Lib.hid (sEventsValid_any A c es wr _ h')
      rw [hok] at KV
      by_cases hlt : k < es.length
      · obtain ⟨ad, rfl, had, hcell, hcell1⟩ := h'.at_ hlt
        have hsz := h.lens k hlt
        have hi0 : (0 : Int) ≤ k := by omega
        have hi1 : (k : Int) < es.length := by omega
        have HN := Lib.hid (jourL_next hlt)
        obtain ⟨ev, hev⟩ : ∃ ev, ev = es[k] := ⟨_, rfl⟩
        rw [← hev] at hcell hcell1 hsz HN
        clear hev
        have hts := textB_size ((k : Int) + 1) ev.kind ev.name
        have KE0 := sEventText_any ((k : Int) + 1) ev.kind ev.name wr hsz
        obtain ⟨T, hT⟩ : ∃ T, T = textB ((k : Int) + 1) ev.kind ev.name := ⟨_, rfl⟩
        rw [← hT] at KE0 hts HN
        have KE := Lib.hid KE0
        have HE := Lib.hid (show (s ++ T ++ (⟨#[10]⟩ : ByteArray)).data.toList = jourL es (k + 1) by rw [toList_append, toList_append, hs.out, HN.out, List.append_assoc])
        clear hT KE0 hs HN hok
        go_wp2_with fail
        (with_reducible refine KV.out.mono ?_)
        rintro e w' ⟨rfl, rfl⟩
        go_wp2_with fail
        (with_reducible refine KE.out.mono ?_)
        rintro e w5 ⟨rfl, hb5⟩
        go_wp2_with fail
        go_roundw
        case rel => exact ⟨k + 1, s ++ T ++ ⟨#[10]⟩, by omega, by go_num, rfl, bthen hb hb5, HE⟩
        case measure => simp [intOf]; omega
      · have hke : k = es.length := by omega
        subst hke
        have HS := Lib.hid (show s = ⟨(jourL es es.length).toArray⟩ by
          cases s
          have := hs.out
          simp only at this
          rw [← this])
        clear hs KV hok
        go_wp2_with fail
        go_ret
        exact ⟨by rw [Hj.out, ← HS.out]; rfl, hb⟩
end Go.Proofs.YtfodedakhnoplaaDoor
