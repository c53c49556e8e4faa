/- Contract of the laws' own function sameEvents, where both lists hold the same. No condition. -/
import Derived.Test.YtaelacpkagcffaaEvWords
import Derived.Test.YtaelacpkagcffaaTexts
import Derived.BigQuiet
namespace Go.Proofs.Ytaelacpkagcffaa
set_option linter.unusedVariables false
set_option maxRecDepth 100000
open Go.RowKit

theorem Evs.alloc2 {w : World} {B c : Nat} {A : Option Addr} {es : List Ev} (h : Evs w B A c es) (o : Obj) : Evs (w.alloc o) w.heap.size A c es := h.alloc o
set_option maxHeartbeats 1000000 in
theorem sameEvents_same (A A' : Option Addr) (c c' : Nat) (es : List Ev) (w : World) (B B' : Nat) (h : Evs w B A c es) (h' : Evs w B' A' c' es) :
    Calls Try.prog 35 #[.slice A es.length c, .slice A' es.length c'] w fun e w' => e = .returned (.bool true) ∧ Below w.heap.size w w' := by
  have hl1 := h.len
  have hc1 := h.cap
  have hl2 := h'.len
  have hc2 := h'.cap
  go_enter Try.func35, Try.ntmps35
  go_wp2
  go_loopw [5] (fun i wr => ∃ k : Nat, k ≤ es.length ∧ i = .int .i64 k ∧ Below w.heap.size w wr) (fun i _ => es.length - (intOf i).toNat)
  case atStart => exact ⟨0, Nat.zero_le _, rfl, Below.refl _ _⟩
  case round =>
    obtain ⟨k, hk, rfl, hb⟩ := hrel
    by_cases hlt : k < es.length
    · have hi0 : (0 : Int) ≤ k := by omega
      have hi1 : (k : Int) < es.length := by omega
      obtain ⟨ad, rfl, _, hc0, hcx⟩ := (h.then_ hb).at_ hlt
      obtain ⟨ad', rfl, _, hc0', hcx'⟩ := (h'.then_ hb).at_ hlt
      have hx1 : (es[k].name.toList != es[k].name.toList) = false := by simp
      have hx2 : (es[k].name.toList == es[k].name.toList) = true := by simp
      go_wp2
      go_quiet (fail)
      go_wp2
      go_roundw
      case rel => exact ⟨k + 1, by omega, by go_num, bdrewN hb _⟩
      case measure => simp [intOf]; omega
    · go_wp2
      go_ret
      exact ⟨rfl, hb⟩
end Go.Proofs.Ytaelacpkagcffaa
