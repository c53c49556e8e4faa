/- FnExactFlowOrder returns true for all flows. No condition. -/
import Derived.Test.YtcammncomeiciaaFlowArgs
import Derived.Test.YtcammncomeiciaaFlowFns
import Derived.Test.YtcammncomeiciaaMarkFlow
namespace Go.Proofs.Ytcammncomeiciaa
set_option linter.unusedVariables false
open Go.ChangeShapes Go.WideShapes Go.ChangeAt Go.RowKit

theorem eqStringS_same (A A' : Option Addr) (c c' : Nat) (xs : List ByteArray) (w : World) (B B' : Nat) (h : Strs w B A c xs) (h' : Strs w B' A' c' xs) :
    Calls Try.prog 37 #[.slice A xs.length c, .slice A' xs.length c'] w fun e w' => e = .returned (.bool true) ∧ Below w.heap.size w w' :=
  (eqStringS_any A A' c c' xs xs w B B' h h').mono fun e w' ⟨he, hb⟩ => ⟨he.trans (ret_bool (decide_eq_true rfl)), hb⟩

theorem Cell2.low {w w' : World} {b lo : Nat} {x y : Value} (h : Cell2 w b x y) (hb : Below lo w w') (hl : b < lo) : Cell2 w' b x y := ⟨(hb.cell hl).trans h.c0, (hb.cell hl).trans h.c1⟩
theorem mark_low {w w' : World} {base : Nat} {A : Option Addr} {c : Nat} {xs : List ByteArray} (h : OwnStrs w' base A c xs) (hg : w.grownBy w' (A.map (·.block))) (hb : base ≤ w.heap.size) : Below base w w' :=
  (Below.refl _ _).grown hg hb fun k hk => by
    cases A with
    | none => cases hk
    | some p => injection hk with hk; exact hk ▸ h.block_.1

set_option maxHeartbeats 4000000 in
theorem exactFlowOrder_law (W : World) (v : Value) (h : IsFlow W v) : Calls Try.prog 12 #[v] W fun e W' => e = .returned (.bool true) ∧ Below W.heap.size W W' := by
  obtain ⟨ver, A, c, ss, rfl, hx⟩ := h
  have h1 := hx.len
  have h2 := hx.cap
  have hab := hx.alloc (Nat.le_refl _) (.cells #[.int .i64 ver, .slice A ss.length c] 41)
  by_cases h20 : 1048576 < ss.length + totSt ss
  · have hl := left_no h20
    go_enter Try.func12, Try.ntmps12
    go_wp2_with fail
    refine (szFlow_any ver A c ss 1048576 _ _ hab (by omega)).mono ?_
    rintro e w1 ⟨rfl, hb1⟩
    go_wp2_with fail
    go_ret
    exact ⟨rfl, bthen ((Below.refl _ _).alloc (Nat.le_refl _) _) hb1⟩
  · have hl : 0 ≤ left 1048576 (ss.length + totSt ss) := by rw [left_ok (by omega)]; omega
    have hn : ss.length ≤ 1048576 := by omega
    have hal := Lib.hid (flow_afters (ss := ss) (by omega))
    have hol : (orderOut ver ss).length ≤ 1048576 := by
      have := ordN_length_le ss ss.length
      unfold orderOut ord; split <;> simp <;> omega
    go_enter Try.func12, Try.ntmps12
    go_wp2_with fail
    refine (szFlow_any ver A c ss 1048576 _ _ hab (by omega)).mono ?_
    rintro e w1 ⟨rfl, hb1⟩
    have b1 : Below W.heap.size W w1 := bthen ((Below.refl _ _).alloc (Nat.le_refl _) _) hb1
    have q1 := (Cell2.new W (.int .i64 ver) (.slice A ss.length c) 41).then_ hb1
    obtain ⟨q10, q11⟩ := id q1
    go_wp2_with fail
    refine (toFlow_any ver A c ss _ _ (hx.then_ b1) hn hal.out).mono ?_
    rintro e w2 ⟨A2, c2, rfl, ho2, hb2⟩
    have b2 := bthen b1 hb2
    have q2 := q1.then_ hb2
    clear q10 q11
    obtain ⟨q20, q21⟩ := id q2
    go_wp2_with fail
    refine (sFlowOrder_any ver A2 c2 ss _ _ ho2.sts (by omega)).mono ?_
    rintro e w3 ⟨A3, c3, rfl, ho3, hb3⟩
    have b3 := bthen b2 hb3
    have q3 := q2.then_ hb3
    have q3lt := q3.lt
    clear q20 q21
    obtain ⟨q30, q31⟩ := id q3
    go_wp2_with fail
    refine (toFlow_any ver A c ss _ _ (hx.then_ b3) hn hal.out).mono ?_
    rintro e w4 ⟨A4, c4, rfl, ho4, hb4⟩
    have b4 := bthen b3 hb4
    have q4 := q3.then_ hb4
    have s4 := ho4.sts
    clear q30 q31
    go_wp2_with fail
    refine (iFlowOrder_any ver A4 c4 ss _ _ (s4.alloc (Nat.le_refl _) _) (by omega)).mono ?_
    rintro e w5 ⟨A5, c5, rfl, ho5, hb5⟩
    have hb5' : Below w4.heap.size w4 w5 := bthen ((Below.refl _ _).alloc (Nat.le_refl _) _) hb5
    have b5 := bthen b4 hb5'
    have q5 := q4.then_ hb5'
    have x5 := (Cell2.new w4 (.int .i64 ver) (.slice A4 ss.length c4) 25).then_ hb5
    have s5 := s4.then_ hb5'
    have t5 := (ho3.strs.then_ hb4).then_ hb5'
    have r5 : Below w3.heap.size w3 w5 := bthen hb4 hb5'
    have g5 : OwnStrs w5 w4.heap.size A5 c5 (orderOut ver ss) := ho5.base_ (by simp)
    obtain ⟨q50, q51⟩ := id q5
    obtain ⟨x50, x51⟩ := id x5
    go_wp2_with fail
    refine (eqStringS_same A5 A3 c5 c3 (orderOut ver ss) _ _ _ g5.strs t5).mono ?_
    rintro e w6 ⟨rfl, hb6⟩
    have b6 := bthen b5 hb6
    have q6 := q5.then_ hb6
    have x6 := x5.then_ hb6
    have s6 := s5.then_ hb6
    have r6 := bthen r5 hb6
    have g6 := g5.below hb6
    have m6 : Below w4.heap.size w4 w6 := bthen hb5' hb6
    clear q50 q51 x50 x51
    obtain ⟨q60, q61⟩ := id q6
    obtain ⟨x60, x61⟩ := id x6
    have K6 := Lib.hid (toFlow_any ver A c ss w6.drew _ ((hx.then_ b6).drew) hn hal.out)
    have R6 := Lib.hid (And.intro g5 (And.intro t5 (And.intro g6 (And.intro r6 m6))))
    clear hb1 hb2 hb3 hb5 hb6 ho5 q1 q2 q3 q4 g5 t5 s4 x5 q5 r5 hb5' g6 r6 m6
    go_wp2_with fail
    go_region_held3 (fun w' => w'.cell? ⟨W.heap.size, 0, none⟩ = some (.int .i64 ver) ∧ w'.cell? ⟨W.heap.size, 1, none⟩ = some (.slice A ss.length c) ∧ w'.cell? ⟨w4.heap.size, 0, none⟩ = some (.int .i64 ver) ∧ w'.cell? ⟨w4.heap.size, 1, none⟩ = some (.slice A4 ss.length c4)) (first | assumption | go_keep)
      (first
        | (go_at_call 28; (with_reducible refine K6.out.mono ?_); rintro e w7 ⟨A7, c7, rfl, ho7, hb7⟩; have hb67 := Below.undrew hb7; have S7 := And.intro (q6.then_ hb67).c0 (And.intro (q6.then_ hb67).c1 (And.intro (x6.then_ hb67).c0 (x6.then_ hb67).c1)))
        | (go_at_call 29; (with_reducible refine (eqFlow_same ver A4 A7 c4 c7 ss _ w6.heap.size _ (s6.then_ hb67) ho7.sts).mono ?_); rintro e w8 ⟨rfl, hb8⟩; have S8 := And.intro ((q6.then_ hb67).then_ hb8).c0 (And.intro ((q6.then_ hb67).then_ hb8).c1 (And.intro ((x6.then_ hb67).then_ hb8).c0 ((x6.then_ hb67).then_ hb8).c1))))
    obtain ⟨g5, t5, g6, r6, m6⟩ := R6.out
    have hb68 := bthen hb67 hb8
    have b8 := bthen b6 hb68
    have q8 := q6.then_ hb68
    have x8 := x6.then_ hb68
    have r8 := bthen r6 hb68
    have g8 := g6.below hb68
    have m8 := bthen m6 hb68
    clear q60 q61 x60 x61 S7 S8 hb67 hb7 hb8 K6 ho7 q6 x6 s6 R6 g5 t5 g6 r6 m6 b6 hb68
    obtain ⟨q80, q81⟩ := id q8
    obtain ⟨x80, x81⟩ := id x8
    go_wp2_with fail
    refine (markFlow_any ver A4 c4 ss w4 w8 w3.heap.size ho4 m8 (by omega)).mono ?_
    rintro e w9 ⟨⟨m9, rfl, hm9, hm9'⟩, hb9⟩
    have hl9 := hb9.low (by have := b3.size; have := r8.size; omega)
    have b9 := b8.trans (hl9.mono b3.size)
    have r9 := r8.trans hl9
    have g9 := hb9.own g8 (Nat.le_refl _)
    have q9 : Cell2 w9 W.heap.size (.int .i64 ver) (.slice A ss.length c) := q8.low hl9 q3lt
    have hm0 : ¬ (m9 : Int) < 0 := by omega
    have hz9 : w4.heap.size ≤ w9.heap.size := by have := m8.size; have := hb9.size; omega
    clear q80 q81 x80 x81 q8 x8 r8 g8 m8 ho4
    obtain ⟨q90, q91⟩ := id q9
    go_wp2_with fail
    refine (eqStringS_same A5 A3 c5 c3 (orderOut ver ss) _ _ _ g9.strs (ho3.strs.below r9)).mono ?_
    rintro e w10 ⟨rfl, hb10⟩
    have b10 := bthen b9 hb10
    have r10 := bthen r9 hb10
    have g10 := g9.below hb10
    have hz10 : w4.heap.size ≤ w10.heap.size := Nat.le_trans hz9 hb10.size
    have q10 := q9.then_ hb10
    clear q90 q91 b9 r9 g9 q9 hl9 hb9 hb10
    obtain ⟨qa0, qa1⟩ := id q10
    go_wp2_with fail
    (with_reducible refine (markStringS_one A5 c5 (orderOut ver ss) w10 w4.heap.size g10 (by omega)).mono ?_)
    rintro e w11 ⟨rfl, g11, hg11⟩
    have hl11 := mark_low g11 hg11 hz10
    have b11 := b10.trans (hl11.mono (by have := b3.size; have := hb4.size; omega))
    have r11 := r10.trans (hl11.mono hb4.size)
    have q11 : Cell2 w11 W.heap.size (.int .i64 ver) (.slice A ss.length c) := q10.low hl11 (by have := hb4.size; omega)
    clear qa0 qa1 g10 q10 b10 r10 hg11 hl11
    obtain ⟨qb0, qb1⟩ := id q11
    go_wp2_with fail
    (with_reducible refine (heldStringS_one A5 c5 (orderOut ver ss).length w11 _ g11.strs (by omega)).mono ?_)
    rintro e w12 ⟨rfl, hb12⟩
    have b12 := bthen b11 hb12
    have r12 := bthen r11 hb12
    have q12 := q11.then_ hb12
    have g12 := g11.below hb12
    have hge : ¬ ((orderOut ver ss).length : Int) + 1 < 0 := by omega
    clear qb0 qb1 b11 r11 q11 g11 hb12
    obtain ⟨qc0, qc1⟩ := id q12
    go_wp2_with fail
    (with_reducible refine (toFlow_any ver A c ss _ _ (hx.then_ b12) hn hal.out).mono ?_)
    rintro e w13 ⟨A13, c13, rfl, ho13, hb13⟩
    go_wp2_with fail
    (with_reducible refine (iFlowOrder_any ver A13 c13 ss _ _ ho13.sts (by omega)).mono ?_)
    rintro e w14 ⟨A14, c14, rfl, ho14, hb14⟩
    have hb24 := bthen hb13 hb14
    go_wp2_with fail
    (with_reducible refine (eqStringS_same A14 A3 c14 c3 (orderOut ver ss) _ _ _ ho14.strs (ho3.strs.below (bthen r12 hb24))).mono ?_)
    rintro e w15 ⟨rfl, hb15⟩
    have hb25 := bthen hb24 hb15
    go_wp2_with fail
    (with_reducible refine (heldStringS_one A5 c5 (orderOut ver ss).length w15 _ (g12.below hb25).strs (by omega)).mono ?_)
    rintro e w16 ⟨rfl, hb16⟩
    have b16 := bthen b12 (bthen hb25 hb16)
    clear b12 r12 q12 g12 qc0 qc1
    go_wp2_with fail
    go_ret
    exact ⟨rfl, b16⟩

set_option maxRecDepth 100000 in
theorem fnExactFlowOrder_lifted (os : Os) (started : os.Started) (H : Type) (enc : TypeId × Value → H) :
    ReturnsInHanded {} Try.checked os 12 .any (Rows.fnExactFlowOrderSpec.pre6 enc Try.prog Try.f12 Rows.fnExactFlowOrderRow.domain false) (Rows.fnExactFlowOrderSpec.post enc Try.prog Try.f12 false true false false) := by
  refine returnsInHanded_of_change (C := Try.checked) own started (by kernel_rfl) Try.func12
    (ChangeSpec.witness6 (enc := enc) (C := Try.checked) false ⟨#[], #[.agg #[.int .i64 0, .slice none 0 0]], []⟩ 8 (by kernel_rfl) (by kernel_rfl) (by kernel_rfl) (by kernel_rfl)) ?_
  intro W base args ds gs before hval0 hW _ _
  have hval : ∀ (j : Nat) t v, Try.f12.params[j]? = some t → args[j]? = some v → Value.okWide Try.prog W .any base t v := hval0
  obtain ⟨p, q, hA0, hV, _⟩ := id hW
  have hA : DataW.TrodAll enc Try.prog W 0 (fun _ => true) true Try.f12.params.toList args.toList ds p := hA0
  rw [Try.params12] at hA hval
  obtain ⟨v0, d0, rfl, rfl, h0⟩ := trodAll_one hA
  obtain ⟨rfl, rfl⟩ := trodVars_none hV
  refine (exactFlowOrder_law W v0 (arg_flow (hval 0 _ v0 rfl rfl) h0)).mono fun e W' ⟨he, hw⟩ => ?_
  subst he
  exact ⟨_, rfl, law_post laidOut (readable_of (by kernel_rfl)) rfl Try.underlying4 rfl rfl rfl rfl hW hw⟩

theorem fnExactFlowOrder_holds : Rows.FnExactFlowOrderSaid :=
  OpenClaim.holds_of_wide 12 Try.f12 rfl rfl rfl rfl rfl rfl rfl ⟨rfl, rfl, rfl, rfl, rfl⟩ rfl rfl rfl rfl rfl (by kernel_rfl) Try.func12 (by kernel_rfl)
    (of_decide_eq_true (by kernel_rfl)) (by unfold Func.isWrapper; rw [if_neg (of_decide_eq_false (by kernel_rfl))]; exact ⟨rfl, rfl⟩)
    (fun os started H enc _ => fnExactFlowOrder_lifted os started H enc)

end Go.Proofs.Ytcammncomeiciaa
