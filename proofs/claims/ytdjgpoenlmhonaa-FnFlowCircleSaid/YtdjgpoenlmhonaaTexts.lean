/- Contracts of the laws' own functions on names: sameTexts, placeOf. No condition. -/
import Derived.Test.YtdjgpoenlmhonaaNames
import Derived.Deep.QuietTactic
import Derived.BigQuiet
namespace Go.Proofs.Ytdjgpoenlmhonaa
set_option linter.unusedVariables false
set_option maxRecDepth 100000
open Go.RowKit

theorem iNamesHave_n (A A' : Option Addr) (c c' n m : Nat) (xs ys : List ByteArray) (w : World) (B B' : Nat) (hn : Hid (xs.length = n)) (hm : Hid (ys.length = m)) (h : Strs w B A c xs) (h' : Strs w B' A' c' ys) :
    Calls Try.prog 22 #[.slice A n c, .slice A' m c'] w fun e w' => e = .returned (.bool (haveAll xs ys)) ∧ w = w' := by
  obtain rfl := hn.out
  obtain rfl := hm.out
  exact iNamesHave_any A A' c c' xs ys w B B' h h'


set_option maxHeartbeats 400000 in
theorem sameTexts_same (A A' : Option Addr) (c c' : Nat) (xs : List ByteArray) (w : World) (B B' : Nat) (h : Strs w B A c xs) (h' : Strs w B' A' c' xs) :
    Calls Try.prog 7 #[.slice A xs.length c, .slice A' xs.length c'] w fun e w' => e = .returned (.bool true) ∧ Below w.heap.size w w' := by
  have hl1 := h.len
  have hc1 := h.cap
  have hl2 := h'.len
  have hc2 := h'.cap
  go_enter Try.func7, Try.ntmps7
  go_wp2
  go_loopw [5] (fun i wr => ∃ k : Nat, k ≤ xs.length ∧ i = .int .i64 k ∧ Below w.heap.size w wr) (fun i _ => xs.length - (intOf i).toNat)
  case atStart => exact ⟨0, Nat.zero_le _, rfl, Below.refl _ _⟩
  case round =>
    obtain ⟨k, hk, rfl, hb⟩ := hrel
    by_cases hlt : k < xs.length
    · have hi0 : (0 : Int) ≤ k := by omega
      have hi1 : (k : Int) < xs.length := by omega
      obtain ⟨ad, rfl, _, hcell⟩ := (h.then_ hb).at_ hlt
      obtain ⟨ad', rfl, _, hcell'⟩ := (h'.then_ hb).at_ hlt
      have hx1 : (xs[k].toList != xs[k].toList) = false := by simp
      have hx2 : (xs[k].toList == xs[k].toList) = true := by simp
      go_wp2
      go_quiet (fail)
      go_wp2
      go_roundw
      case rel => exact ⟨k + 1, by omega, by go_num, bdrewN hb _⟩
      case measure => simp [intOf]; omega
    · go_wp2
      go_ret
      exact ⟨rfl, hb⟩
end Go.Proofs.Ytdjgpoenlmhonaa
