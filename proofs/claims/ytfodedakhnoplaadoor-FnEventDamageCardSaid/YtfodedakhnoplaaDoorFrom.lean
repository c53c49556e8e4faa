/- Contract of the program's EventFrom at a text that is no event's line: false. Condition: the listed variables lie as the text lays them, the library's MaxLen holds a number. -/
import Derived.Test.YtfodedakhnoplaaDoorTextEv
import Derived.Test.YtfodedakhnoplaaDoorShelfD
import Derived.Shelf.Strings.SplitShaped
import Derived.Shelf.Strconv.AtoiAll
import Derived.Deep.RegionHeld3
import Derived.Deep.DeepCutAuto
namespace Go.Proofs.YtfodedakhnoplaaDoor
set_option linter.unusedVariables false
set_option maxRecDepth 100000
open Go.RowKit

/-- The variables, with those of the library's Split and Atoi. -/
structure LaidD (B : Nat) (w : World) : Prop where
  toF : LaidF B w
  max : ∃ m, w.cell? ⟨4, 0, none⟩ = some (.int .i64 m) ∧ 4 < B
  syn : ∃ te pe, w.cell? ⟨1, 0, none⟩ = some (.iface te pe) ∧ 1 < B
  ran : ∃ te pe, w.cell? ⟨2, 0, none⟩ = some (.iface te pe) ∧ 2 < B
theorem LaidD.on {B : Nat} {w w' : World} (h : LaidD B w) (hb : Below B w w') : LaidD B w' := by
  obtain ⟨m, h1, l1⟩ := h.max
  obtain ⟨ts, ps, h2, l2⟩ := h.syn
  obtain ⟨tr, pr, h3, l3⟩ := h.ran
  exact ⟨h.toF.on hb, ⟨m, (hb.cell (p := ⟨_, 0, none⟩) l1).trans h1, l1⟩, ⟨ts, ps, (hb.cell (p := ⟨_, 0, none⟩) l2).trans h2, l2⟩, ⟨tr, pr, (hb.cell (p := ⟨_, 0, none⟩) l3).trans h3, l3⟩⟩

theorem split_size (sep : ByteArray) (save : Nat) : ∀ (k : Nat) (s : ByteArray), ∀ x ∈ Lib.splitB sep save k s, x.size ≤ s.size
  | 0, s, x, hx => by
    rw [Lib.splitB_zero, List.mem_singleton] at hx
    subst hx; exact Nat.le_refl _
  | k + 1, s, x, hx => by
    unfold Lib.splitB at hx
    split at hx
    · rw [List.mem_singleton] at hx
      subst hx; exact Nat.le_refl _
    · rw [List.mem_cons] at hx
      rcases hx with rfl | hx
      · rw [ByteArray.size_extract]; omega
      · have := split_size sep save k _ x hx
        rw [ByteArray.size_extract] at this
        omega

theorem split_any (s : ByteArray) (hs : s.size < 4294967281) (w : World) (B : Nat) (hL : LaidD B w) :
    Calls Tryd.prog 29 #[.string s, .string ⟨#[32]⟩] w fun e w' => ∃ (b : Nat) (l : List ByteArray), e = .returned (.slice (some ⟨b, 0, none⟩) l.length l.length) ∧ b < w'.heap.size ∧ (∀ j (h : j < l.length), w'.cell? ⟨b, j, none⟩ = some (.string l[j])) ∧ (∀ x ∈ l, x.size ≤ s.size) ∧ Below w.heap.size w w' := by
  obtain ⟨m, hm, _⟩ := hL.max
  have K : Calls Tryd.prog 29 #[.string s, .string ⟨#[32]⟩] w _ := Any.strings_Split { Tryd.laysM146 with } Tryd.laysM146.i9 s ⟨#[32]⟩ m w hs hm (by decide)
  refine K.mono ?_
  rintro e w' ⟨rfl, rfl⟩
  have hlen := Lib.splitB_all ⟨#[32]⟩ (by decide) 0 _ s rfl
  refine ⟨w.heap.size, Lib.splitB ⟨#[32]⟩ 0 (Lib.countB s ⟨#[32]⟩) s, by rw [hlen], by simp, fun j hj => ?_, split_size _ _ _ _, (Below.refl _ _).alloc (Nat.le_refl _) _⟩
  rw [cell_of_row _ w.heap.size j _ _ (0, 0) (heap_alloc_new w _)]
  simp [hj]
theorem atoi_any (t : ByteArray) (ht : t.size < 4294967281) (w : World) (B : Nat) (hL : LaidD B w) :
    Calls Tryd.prog 30 #[.string t] w fun e w' => ((∃ v, e = .returned (.tuple #[.int .i64 v, .nilIface])) ∨ ∃ v N, e = .returned (.tuple #[.int .i64 v, .iface 76 (.pointer (some ⟨N, 0, none⟩))])) ∧ Below w.heap.size w w' := by
  obtain ⟨ts, ps, h2, _⟩ := hL.syn
  obtain ⟨tr, pr, h3, _⟩ := hL.ran
  rcases ha : Lib.atoiAll t.data.toList with v | _ | _
  · have K : Calls Tryd.prog 30 #[.string t] w _ := Any.strconv_Atoi_ok Tryd.laysC172 t (by omega) v ha w
    refine K.mono ?_
    rintro e w' ⟨rfl, hw⟩
    refine ⟨.inl ⟨v, rfl⟩, ?_⟩
    rcases hw with rfl | ⟨u, rfl⟩
    · exact Below.refl _ _
    · exact Lib.bytesWorld_below _ _ _
  · have K : Calls Tryd.prog 30 #[.string t] w _ := Any.strconv_Atoi_syntax Tryd.laysC172 t (by omega) ha _ w h2 (.inr ⟨_, _, rfl⟩)
    refine K.mono ?_
    rintro e w' ⟨N, rfl, _, _, hb⟩
    exact ⟨.inr ⟨_, N, rfl⟩, hb⟩
  · have K : Calls Tryd.prog 30 #[.string t] w _ := Any.strconv_Atoi_range Tryd.laysC172 t (by omega) ha _ w h3 (.inr ⟨_, _, rfl⟩)
    refine K.mono ?_
    rintro e w' ⟨N, rfl, _, _, hb⟩
    exact ⟨.inr ⟨_, N, rfl⟩, hb⟩
end Go.Proofs.YtfodedakhnoplaaDoor
