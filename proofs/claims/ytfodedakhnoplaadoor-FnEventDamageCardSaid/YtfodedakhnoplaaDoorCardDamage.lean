/- The given statement of FnEventDamage: the row by the law's contract, the card by the builder's one call. No condition. -/
import Derived.Test.YtfodedakhnoplaaDoorLawDamage
import Derived.Test.YtfodedakhnoplaaDoorMetD
import Derived.Test.YtfodedakhnoplaaDoorCloseF
import Derived.Test.YtfodedakhnoplaaDoorCards
import Derived.Test.YtfodedakhnoplaaDoorTie
import Derived.SevenTiedAt
namespace Go.Proofs.YtfodedakhnoplaaDoor
set_option linter.unusedVariables false
set_option maxRecDepth 100000
open Go.ChangeShapes Go.WideShapes Go.ChangeAt Go.RowKit

set_option maxHeartbeats 2000000 in
set_option maxRecDepth 100000 in
theorem fnEventDamage_lifted (os : Os) (started : os.Started) (H : Type) (enc : TypeId × Value → H) :
    ReturnsInHanded {} Tryd.checked os 4 .any (fun w args => (Rows.fnEventDamageSpec.pre enc Tryd.prog Tryd.f4 [] false w args ∧ laidMetH Tryd.prog laidD w) ∧ sizedMet enc Tryd.prog Tryd.f4 (OpenSpec.ofChange Rows.fnEventDamageSpec) false w args)
      (Rows.fnEventDamageSpec.post enc Tryd.prog Tryd.f4 false true false false) := by
  have key : ∀ (W : World) (base : Nat) (args : Array Value) (ds gs : List (DataW H)) (before : List MemPlace), (∀ (j : Nat) t v, Tryd.f4.params[j]? = some t → args[j]? = some v → Value.okWide Tryd.prog W .any base t v) →
      DataW.Whole enc Tryd.prog Tryd.f4.params.toList Rows.fnEventDamageSpec.vars false W args.toList ds gs before → laidMetH Tryd.prog laidD W → W.ShapedOpen Tryd.prog →
      Calls Tryd.prog 4 args W fun e W' => ∃ v, e = .returned v ∧ Rows.fnEventDamageSpec.post enc Tryd.prog Tryd.f4 false true false false W args v W' := by
    intro W base args ds gs before hval0 hW hL hsh
    have hval : ∀ (j : Nat) t v, Tryd.f4.params[j]? = some t → args[j]? = some v → Value.okWide Tryd.prog W .any base t v := hval0
    obtain ⟨p, q, hA0, hV, _⟩ := id hW
    have hA : DataW.TrodAll enc Tryd.prog W 0 (fun _ => true) true Tryd.f4.params.toList args.toList ds p := hA0
    rw [Tryd.params4] at hA hval
    obtain ⟨v0, v1, d0, d1, p0, p1, rfl, rfl, rfl, h0, h1⟩ := trodAll_two hA
    obtain ⟨g1, rfl⟩ : ∃ g1, gs = [g1] := gs_one hV
    refine (eventDamage_law W v0 v1 (arg_code (hval 0 _ v0 rfl rfl) h0) (arg_code (hval 1 _ v1 rfl rfl) h1) (laidD_of hL hsh)).mono fun e W' ⟨he, hw⟩ => ?_
    subst he
    exact ⟨_, rfl, law_post_v laidOut (readable_of (by kernel_rfl)) rfl Tryd.underlying4 (by kernel_rfl) rfl rfl rfl hW hw⟩
  refine returnsInHanded_of_calls (C := Tryd.checked) own started (by kernel_rfl)
    (ChangeSpec.witness_shaped (enc := enc) (C := Tryd.checked) (os := os) (X := fun w _ => laidMetH Tryd.prog laidD w) false (World.laidAll Tryd.prog os laidD) #[.slice none 0 0, .slice none 0 0] 8 (World.laidAll_os _ _ _)
      (shapedD os _) (by kernel_rfl) (by kernel_rfl) (by kernel_rfl) (metD os _)) ?_
  rintro w tape i - hsh - ⟨_, _, _, fn, hfn, _, _, _, _, hval⟩ ⟨⟨⟨ds, gs, before, hw, _⟩, hx⟩, _⟩ -
  have hfn' : fn = Tryd.f4 := Option.some.inj (hfn.symm.trans Tryd.func4)
  subst hfn'
  refine (key _ w.heap.size i.args ds gs before hval (DataW.Whole.of_heap (w' := w.forCall tape i) (by rfl) hw) (hx.of_heap (by rfl)) hsh).mono fun e W' ⟨v, he, hp⟩ => ?_
  subst he
  exact ChangeSpec.post_blind hp

theorem fnEventDamage_said : Rows.FnEventDamageSaid :=
  OpenClaim.holds_of_wide 4 Tryd.f4 rfl rfl rfl rfl rfl rfl rfl ⟨rfl, rfl, rfl, rfl, rfl⟩ rfl rfl rfl rfl rfl (by kernel_rfl) Tryd.func4 (by kernel_rfl)
    (of_decide_eq_true (by kernel_rfl)) (by unfold Func.isWrapper; first | (rw [if_pos (by decide +kernel)]; kernel_rfl) | (rw [if_neg (by decide +kernel)]; exact ⟨rfl, rfl⟩))
    (fun os started H enc _ => fnEventDamage_lifted os started H enc)

theorem fnEventDamage_holds : Rows.FnEventDamageCardSaid :=
  Claim7.holds_tied_plain_at .later [] [.data, .data, .data, .data, .sentinel, .sentinel, .data, .pinned] true (true, "13ad36e6c3419734515172538451c65565ba4dde07904eace94ac7a2522b805e") true
    fnEventDamage_said (fun _ h => by cases h) (by kernel_rfl) (fun _ h => by cases h) fnEventDamage_row_tie rfl ⟨rfl, rfl⟩ (by kernel_rfl) rfl
    (fun f fn hf hfn => by
      obtain rfl : f = 4 := Option.some.inj ((show Tryd.prog.funcNamed "loop.example/sagaflows/laws.FnEventDamage" = some 4 by kernel_rfl).symm.trans hf) |>.symm
      obtain rfl : fn = Tryd.f4 := (Option.some.inj (Tryd.func4.symm.trans hfn)).symm
      exact ⟨by kernel_rfl, fun j t ht => by
        rw [Tryd.params4] at ht
        have hm := Array.mem_of_getElem? ht
        have hall : (Tryd.f4.params.all fun u => !Tryd.prog.wantsStandIn u) = true := by kernel_rfl
        rw [Tryd.params4, Array.all_eq_true_iff_forall_mem] at hall
        have := hall t hm
        exact (show Tryd.prog.wantsStandIn t = false by simpa using this)⟩)
    (by kernel_rfl)
end Go.Proofs.YtfodedakhnoplaaDoor
