/- FnHaveMore returns true for every code. No condition. -/
import Derived.Test.YtgdnpinlbbnbbaaArgs
import Derived.Test.YtgdnpinlbbnbbaaNames
import Derived.Test.YtgdnpinlbbnbbaaDrawLists
namespace Go.Proofs.Ytgdnpinlbbnbbaa
set_option linter.unusedVariables false
open Go.ChangeShapes Go.WideShapes Go.ChangeAt Go.RowKit

theorem run_cut1 (A : Option Addr) (n c k : Nat) (hk : k ≤ n) (w : World) :
    (Instr.slice 27 (.slice A n c) (some (.int .i64 k)) none none).run Try.prog w = .ok (.slice (cutA A c k) (n - k) (c - k)) w := by
  rw [run_slice_l (P := Try.prog) (w := w) 27 A n c (by kernel_rfl) .i64 k (by omega) (by omega)]
  have hs : (sizeOf (Try.prog.elem 27)).run Try.prog w = .ok 1 w := by kernel_rfl
  rw [hs]
  simp [sliced, cutA, Result.andThen]

theorem haveAll_more (z : ByteArray) {xs ys : List ByteArray} (h : haveAll xs ys = true) : haveAll (z :: xs) ys = true := by
  rw [haveAll_iff] at h ⊢
  exact fun y hy => List.mem_cons_of_mem _ (h y hy)
theorem haveAll_rest {xs yt : List ByteArray} {y : ByteArray} (h : haveAll xs (y :: yt) = true) : haveAll xs yt = true := by
  rw [haveAll_iff] at h ⊢
  exact fun y' hy => h y' (List.mem_cons_of_mem _ hy)

set_option maxHeartbeats 400000 in
theorem haveMore_law (W : World) (v : Value) (h : IsCode W v) : Calls Try.prog 7 #[v] W fun e W' => e = .returned (.bool true) ∧ Below W.heap.size W W' := by
  obtain ⟨A, c, zs, rfl, hz⟩ := h
  have hl := hz.len
  have hc := hz.cap
  by_cases h20 : 1048576 < zs.length
  · go_enter Try.func7, Try.ntmps7
    go_wp2
    go_ret
    exact ⟨rfl, Below.refl _ _⟩
  · go_enter Try.func7, Try.ntmps7
    go_wp2_with fail
    (with_reducible refine (drawNamesHave_any A c zs W hz).mono ?_)
    rintro e w1 ⟨A1, A2, c1, c2, xs, ys, rfl, ho1, ho2, hx5, hy5, hx6, hy6, hb⟩
    have hs1 := ho1.strs
    have hs2 := ho2.strs
    go_wp2_with fail
    (with_reducible refine (iNamesHave_any A1 A2 c1 c2 xs ys _ _ _ hs1 hs2).mono ?_)
    rintro e w' ⟨rfl, rfl⟩
    go_wp2_with fail
    (with_reducible refine (sNamesHave_any A1 A2 c1 c2 xs ys _ _ _ hs1 hs2).mono ?_)
    rintro e w' ⟨rfl, rfl⟩
    cases hok : haveAll xs ys
    · go_wp2_with fail
      go_ret
      exact ⟨rfl, hb⟩
    · by_cases h0 : 0 < ys.length
      · obtain ⟨y0, yt, rfl⟩ : ∃ y0 yt, ys = y0 :: yt := by
          cases ys with
          | nil => simp at h0
          | cons y0 yt => exact ⟨_, _, rfl⟩
        have k1 := haveAll_more ⟨#[122, 122]⟩ hok
        have k2 := haveAll_rest hok
        have k3 : haveAll xs [] = true := rfl
        have hcut : ∀ w : World, (Instr.slice 27 (.slice A2 (yt.length + 1) c2) (some (.int .i64 1)) none none).run Try.prog w = .ok (.slice (cutA A2 c2 1) yt.length (c2 - 1)) w := fun w => run_cut1 A2 (yt.length + 1) c2 1 (by omega) w
        have hl2 := hs2.len
        have hc2 := hs2.cap
        have hsc := hs2.cut 1 (by simp)
        have hs1a := fun o => hs1.alloc (Nat.le_refl _) o
        have hown := fun w0 : World => (show OwnStrs (w0.alloc (.cells #[.string ⟨#[122, 122]⟩] 9)) w0.heap.size (some ⟨w0.heap.size, 0, none⟩) 1 [⟨#[122, 122]⟩] from
          ⟨World.ownsRow_lit w0 #[.string ⟨#[122, 122]⟩] 1 (Nat.le_refl _) (by simp only [maxLen]; omega) rfl, fun x hx => by simp at hx; subst hx; decide⟩)
        go_wp2_with (at_builtin; refine wpList_append_strs _ rfl (.tmp 36) (.tmp 37) rfl w1.heap.size (some ⟨w1.heap.size, 0, none⟩) 1 [⟨#[122, 122]⟩] rfl (hown w1) A1 c1 w1.heap.size xs rfl (hs1a _) (⟨#[122, 122]⟩ :: xs) rfl (by simp; omega) (by simp) ?_; intro A3 c3 w3 ho3 hb3 _)
        have hb13 : Below w1.heap.size w1 w3 := ((Below.refl _ _).alloc (Nat.le_refl _) _).trans hb3
        have K1 := iNamesHave_any A3 A2 c3 c2 _ _ _ _ _ ho3.strs (hs2.then_ hb13)
        simp only [List.length_cons] at K1
        refine K1.mono ?_
        clear K1
        rintro e w' ⟨rfl, rfl⟩
        go_wp2_with fail
        have K2 := iNamesHave_any A1 (cutA A2 c2 1) c1 (c2 - 1) _ _ _ _ _ (hs1.then_ hb13) (hsc.then_ hb13)
        simp only [List.drop_succ_cons, List.drop_zero] at K2
        refine K2.mono ?_
        clear K2
        rintro e w' ⟨rfl, rfl⟩
        go_wp2_with fail


        have hnil : Strs (w3.alloc (.cells #[] 9)) 0 (some ⟨w3.heap.size, 0, none⟩) 0 [] := ⟨by simp, by omega, fun j hj => absurd hj (by simp), fun h => absurd h (by simp)⟩
        have K3 := iNamesHave_any A1 _ c1 0 _ _ _ _ _ ((hs1.then_ hb13).alloc hb13.size (.cells #[] 9)) hnil
        simp only [List.length_nil] at K3
        refine K3.mono ?_
        clear K3
        rintro e w' ⟨rfl, rfl⟩
        go_wp2_with fail
        go_ret
        exact ⟨rfl, (bthen hb hb13).alloc (by have := hb.size; have := hb13.size; omega) _⟩
      · obtain rfl : ys = [] := List.eq_nil_of_length_eq_zero (by omega)
        go_wp2_with fail
        go_ret
        exact ⟨rfl, hb⟩

set_option maxRecDepth 100000 in
theorem fnHaveMore_lifted (os : Os) (started : os.Started) (H : Type) (enc : TypeId × Value → H) :
    ReturnsInHanded {} Try.checked os 7 .any (Rows.fnHaveMoreSpec.pre6 enc Try.prog Try.f7 Rows.fnHaveMoreRow.domain false) (Rows.fnHaveMoreSpec.post enc Try.prog Try.f7 false true false false) := by
  refine returnsInHanded_of_change (C := Try.checked) own started (by kernel_rfl) Try.func7
    (ChangeSpec.witness6 (enc := enc) (C := Try.checked) false ⟨#[], #[.slice none 0 0], []⟩ 8 (by kernel_rfl) (by kernel_rfl) (by kernel_rfl) (by kernel_rfl)) ?_
  intro W base args ds gs before hval0 hW _ _
  have hval : ∀ (j : Nat) t v, Try.f7.params[j]? = some t → args[j]? = some v → Value.okWide Try.prog W .any base t v := hval0
  obtain ⟨p, q, hA0, hV, _⟩ := id hW
  have hA : DataW.TrodAll enc Try.prog W 0 (fun _ => true) true Try.f7.params.toList args.toList ds p := hA0
  rw [Try.params7] at hA hval
  obtain ⟨v0, d0, rfl, rfl, h0⟩ := trodAll_one hA
  obtain ⟨rfl, rfl⟩ := trodVars_none hV
  refine (haveMore_law W v0 (arg_code (hval 0 _ v0 rfl rfl) h0)).mono fun e W' ⟨he, hw⟩ => ?_
  subst he
  exact ⟨_, rfl, law_post laidOut (readable_of (by kernel_rfl)) rfl Try.underlying4 rfl rfl rfl rfl hW hw⟩

theorem fnHaveMore_holds : Rows.FnHaveMoreSaid :=
  OpenClaim.holds_of_wide 7 Try.f7 rfl rfl rfl rfl rfl rfl rfl ⟨rfl, rfl, rfl, rfl, rfl⟩ rfl rfl rfl rfl rfl (by kernel_rfl) Try.func7 (by kernel_rfl)
    (of_decide_eq_true (by kernel_rfl)) (by unfold Func.isWrapper; rw [if_neg (of_decide_eq_false (by kernel_rfl))]; exact ⟨rfl, rfl⟩)
    (fun os started H enc _ => fnHaveMore_lifted os started H enc)

end Go.Proofs.Ytgdnpinlbbnbbaa
