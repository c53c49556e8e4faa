/- FnEventsValid returns true for all codes. No condition. -/
import Derived.Test.YtcdccdgegmnhnaaArgs
import Derived.Test.YtcdccdgegmnhnaaEvents
import Derived.Test.YtcdccdgegmnhnaaDrawEvents
import Derived.Deep.RegionLaw
namespace Go.Proofs.Ytcdccdgegmnhnaa
set_option linter.unusedVariables false
set_option maxRecDepth 100000
open Go.ChangeShapes Go.WideShapes Go.ChangeAt Go.RowKit

theorem OwnEvs.storeKind {w : World} {base g c : Nat} {es : List Ev} (h : OwnEvs w base (some ⟨g, 0, none⟩) c es) (k : Nat) (hk : k < es.length) :
    OwnEvs (w.setCell ⟨g, k * 2, none⟩ (.int .i64 0)) base (some ⟨g, 0, none⟩) c (es.set k ⟨0, es[k].name⟩) := by
  have h1 := (h.1.stored (k * 2) (.int .i64 0)).1
  have e : (es.flatMap evCells).set (k * 2) (.int .i64 0) = (es.set k ⟨0, es[k].name⟩).flatMap evCells := by
    rw [← evCells_set es k ⟨0, es[k].name⟩ hk]
    apply List.ext_getElem?
    intro i
    by_cases hi : i = k * 2 + 1
    · subst hi
      have hl := evCells_length es
      rw [List.getElem?_set_self (by rw [List.length_set]; omega), List.getElem?_set_ne (by omega)]
      exact (evCells_at es k hk).2
    · rw [List.getElem?_set_ne (fun e => hi e.symm)]
  rw [e] at h1
  refine ⟨by simpa using h1, fun x hx => ?_⟩
  rcases List.mem_or_eq_of_mem_set hx with hx | rfl
  · exact h.2 x hx
  · exact h.2 es[k] (List.getElem_mem hk)
theorem iEv_K (A : Option Addr) (c n : Nat) (es : List Ev) (w : World) (B : Nat) (b : Bool) (h : Evs w B A c es) (hn : es.length = n) (hb : evsOk es = b) :
    Calls Try.prog 26 #[.slice A n c] w fun e w' => e = .returned (.bool b) ∧ Below w.heap.size w w' := by
  subst hn hb
  exact iEventsValid_any A c es w B h
theorem evsOk_part {es : List Ev} (h : evsOk es = true) (k : Nat) : evsOk (es.take k ++ es.drop (k + 1)) = true := by
  unfold evsOk at h ⊢
  simp only [Bool.and_eq_true, decide_eq_true_eq, List.all_eq_true] at h ⊢
  refine ⟨fun x hx => ?_, ?_⟩
  · rcases List.mem_append.1 hx with hx | hx
    · exact h.1 x (List.mem_of_mem_take hx)
    · exact h.1 x (List.mem_of_mem_drop hx)
  · rw [List.length_append, List.length_take, List.length_drop]; omega
theorem evsOk_zero {es : List Ev} {k : Nat} (hk : k < es.length) (nm : ByteArray) : evsOk (es.set k ⟨0, nm⟩) = false := by
  refine evsOk_bad (k := k) (by rw [List.length_set]; exact hk) ?_
  rw [List.getElem_set_self]
  rfl
/-- What lies when the kind is written over. -/
theorem part_end {w6 w8 : World} {A6 : Option Addr} {c6 c8 gb base : Nat} {xs3 es : List Ev} (ho6 : OwnEvs w6 base A6 c6 xs3) (hl8 : Below w6.heap.size (w6.alloc (.cells #[] 41)) w8) (ho8 : OwnEvs w8 w6.heap.size (some ⟨gb, 0, none⟩) c8 es) (hgb : w6.heap.size ≤ gb) (k : Nat) (hk : k < es.length) :
    Evs (w8.setCell ⟨gb, k * 2, none⟩ (.int .i64 0)) w6.heap.size A6 c6 xs3 ∧ Evs (w8.setCell ⟨gb, k * 2, none⟩ (.int .i64 0)) (w8.setCell ⟨gb, k * 2, none⟩ (.int .i64 0)).heap.size (some ⟨gb, 0, none⟩) c8 (es.set k ⟨0, es[k].name⟩) ∧ Below w6.heap.size w6 (w8.setCell ⟨gb, k * 2, none⟩ (.int .i64 0)) := by
  have hb : Below w6.heap.size w6 (w8.setCell ⟨gb, k * 2, none⟩ (.int .i64 0)) := (((Below.refl _ _).alloc (Nat.le_refl _) _).trans hl8).setCell (show w6.heap.size ≤ gb from hgb) _
  exact ⟨ho6.evs.below hb, (ho8.storeKind k hk).evs, hb⟩

set_option maxHeartbeats 4000000 in
theorem eventsValid_law (W : World) (v v' : Value) (h : IsCode W v) (h' : IsCode W v') : Calls Try.prog 9 #[v, v'] W fun e W' => e = .returned (.bool true) ∧ Below W.heap.size W W' := by
  obtain ⟨A, c, zs, rfl, hz⟩ := h
  obtain ⟨A', c', zs', rfl, hz'⟩ := h'
  have hl := hz.len
  have hc := hz.cap
  have hl' := hz'.len
  have hc' := hz'.cap
  by_cases h20 : 1048576 < zs.length
  · go_enter Try.func9, Try.ntmps9
    go_wp2
    go_ret
    exact ⟨rfl, Below.refl _ _⟩
  · by_cases h20' : 1048576 < zs'.length
    · go_enter Try.func9, Try.ntmps9
      go_wp2
      go_ret
      exact ⟨rfl, Below.refl _ _⟩
    · go_enter Try.func9, Try.ntmps9
      go_wp2_with fail
      (with_reducible refine (drawEventsValid_any A c zs W hz).mono ?_)
      rintro e w1 ⟨A1, c1, es, rfl, ho1, hn1, hs1, hb1⟩
      go_wp2_with fail
      (with_reducible refine (iEventsValid_any A1 c1 es _ _ ho1.evs).mono ?_)
      rintro e w2 ⟨rfl, hb2⟩
      have b2 := bthen hb1 hb2
      have ho2 := ho1.below hb2
      go_wp2_with fail
      (with_reducible refine (sEventsValid_any A1 c1 es _ _ ho2.evs).mono ?_)
      rintro e w3 ⟨rfl, rfl⟩
      cases hok : evsOk es
      · go_wp2_with fail
        go_ret
        exact ⟨rfl, b2⟩
      · by_cases h0 : 0 < es.length
        · have hne : ((es.length : Int) == 0) = false := beq_eq_false_iff_ne.2 (by omega)
          have hne2 : ¬ ((es.length : Int) = 0) := by omega
          obtain ⟨k, hk⟩ : ∃ k, k = zs'.length % es.length := ⟨_, rfl⟩
          have hkl : k < es.length := by rw [hk]; exact Nat.mod_lt _ h0
          have hmod : (zs'.length : Int).tmod es.length = (k : Int) := by rw [hk]; exact (Int.ofNat_tmod _ _).symm
          have hel := ho2.evs.len
          have hec := ho2.evs.cap
          have Hok := Lib.hid hok
          clear hok
          obtain ⟨ga, rfl, hga, hgl, hfz, hcell⟩ := ownEvs_form ho2 h0
          have hk0 : (0 : Int) ≤ k := by omega
          have hk1 : (k : Int) ≤ es.length := by omega
          have hk2 : (k : Int) + 1 ≤ es.length := by omega
          have hk3 : (k : Int) ≤ c1 := by omega
          have hk4 : (k : Int) + 1 ≤ c1 := by omega
          have o1 := Lib.hid (show OwnEvs (w2.alloc (.cells #[] 41)).drew w2.heap.size (some ⟨w2.heap.size, 0, none⟩) 0 [] from (show OwnEvs (w2.alloc (.cells #[] 41)) w2.heap.size (some ⟨w2.heap.size, 0, none⟩) 0 [] from ⟨World.ownsRow_lit w2 #[] 0 (Nat.le_refl _) (by simp only [maxLen]; omega) rfl, fun x hx => by cases hx⟩).below ⟨rfl, rfl, rfl, Nat.le_refl _, fun _ _ => rfl⟩)
          have hmod2 := Lib.hid (show (zs'.length : Int) % es.length = (k : Int) by rw [hk]; exact (Int.natCast_emod _ _).symm)
          clear hmod
          have hke := Lib.hid hk
          clear hk
          have ee := (ho2.evs.alloc (.cells #[] 41))
          obtain ⟨xs1, hxs1⟩ : ∃ xs1, xs1 = es.take k := ⟨_, rfl⟩
          obtain ⟨xs2, hxs2⟩ : ∃ xs2, xs2 = es.drop (k + 1) := ⟨_, rfl⟩
          obtain ⟨xs3, hxs3⟩ : ∃ xs3, xs3 = xs1 ++ xs2 := ⟨_, rfl⟩
          have hl1 : Hid (k = xs1.length) := Lib.hid (by rw [hxs1, List.length_take]; omega)
          have hl2 : Hid (es.length - (k + 1) = xs2.length) := Lib.hid (by rw [hxs2, List.length_drop])
          have hl3 : xs3.length ≤ 100 := by rw [hxs3, List.length_append, ← hl1.out, ← hl2.out]; omega
          have hl4 : xs1.length ≤ 100 := by rw [← hl1.out]; omega
          have e1 := Lib.hid (hxs1 ▸ ee.take k)
          have H3 := Lib.hid (And.intro hxs1 (And.intro hxs2 hxs3))
          have hb21 : Below w2.heap.size w2 (w2.alloc (.cells #[] 41)).drew := (show Below w2.heap.size w2 (w2.alloc (.cells #[] 41)) from (Below.refl _ _).alloc (Nat.le_refl _) _).drew
          have hlow := Lib.hid hb21
          by_cases hck : c1 = k + 1
          · have e2 : Evs w2 w2.heap.size (some ⟨ga, 0, none⟩) (c1 - (k + 1)) xs2 := by
              have := ho2.evs.cut (k + 1) (by omega)
              rw [if_pos hck, ← hxs2] at this
              exact this
            have hckT : (c1 = k + 1) = True := eq_true hck
            clear hck
            have E2 := Lib.hid e2
            have Hx3 := Lib.hid (show evsOk xs3 = true by rw [hxs3, hxs1, hxs2]; exact evsOk_part Hok.out k)
            have Hy3 := Lib.hid (evsOk_zero hkl es[k].name)
            clear hxs1 hxs2 hxs3 ee e2 hb21
            have Hel := Lib.hid hel
            have hk5 : IntKind.i64.wrap ((k : Int) + 1) = (k : Int) + 1 := IntWalk.i64_in _ (by omega)
            have hk6 : (0 : Int) ≤ (k : Int) + 1 := by omega
            have hk7 : ((k : Int) + 1).toNat = k + 1 := by omega
            go_upto_region 9 with fail
            rw [hmod2.out]
            clear hmod2
            go_region_law (first
              | (refine step_append_evs _ rfl (.tmp 45) (.tmp 48) rfl w2.heap.size (some ⟨w2.heap.size, 0, none⟩) 0 [] 0 (by simp [Act.eval]) (Lib.hid rfl) o1.out (some ⟨ga, 0, none⟩) c1 _ xs1 k (by simp [Act.eval]) hl1 (show Evs (w2.alloc (.cells #[] 41)).drew _ _ _ _ from e1.out.keep fun _ _ => rfl) xs1 rfl (by omega) (by simp) ?_; intro A5 c5 w5 ho5 hl5 hg5; have hz5 := hl5.size)
              | (refine step_append_evs _ rfl (.tmp 49) (.tmp 53) rfl w2.heap.size A5 c5 xs1 xs1.length (by simp [Act.eval]) (Lib.hid rfl) ho5 _ _ w2.heap.size xs2 (es.length - (k + 1)) rfl hl2 (E2.out.below (hlow.out.trans hl5)) xs3 H3.out.2.2 (by omega) (by simp at hz5; omega) ?_; intro A6 c6 w6 ho6 hl6 hg6; have hz6 := hl6.size))
            all_goals
              have b26 := (hlow.out.trans hl5).trans hl6
              have ev6 := ho2.evs.then_ b26
              have bW6 := bthen b2 b26
              have o7 := Lib.hid (show OwnEvs (w6.alloc (.cells #[] 41)) w6.heap.size (some ⟨w6.heap.size, 0, none⟩) 0 [] from ⟨World.ownsRow_lit w6 #[] 0 (Nat.le_refl _) (by simp only [maxLen]; omega) rfl, fun x hx => by cases hx⟩)
              have e7 := Lib.hid (ev6.alloc (.cells #[] 41))
              go_wp2_with (at_builtin; (refine wpList_append_evs _ rfl (.tmp 55) (.tmp 56) rfl w6.heap.size (some ⟨w6.heap.size, 0, none⟩) 0 [] 0 rfl (Lib.hid rfl) o7.out _ _ _ es es.length rfl (Lib.hid rfl) e7.out es rfl (by omega) (by simp) ?_); intro A8 c8 w8 ho8 hl8 hg8; obtain ⟨gb, rfl, hgb, hgbl, hfz8, hcell8⟩ := ownEvs_form ho8 h0; obtain ⟨hq0, hq1⟩ := hcell8 k hkl; have hqf := hfz8 (k * 2); have hc8l := ho8.evs.len; have hc8c := ho8.evs.cap; have PE := Lib.hid (part_end ho6 hl8 ho8 hgb k hkl))
              have KX := Lib.hid (iEv_K A6 c6 xs3.length xs3 _ _ true PE.out.1 rfl Hx3.out)
              go_wp2_with fail
              (with_reducible refine KX.out.mono ?_)
              rintro e w9 ⟨rfl, hb9⟩
              have KY := Lib.hid (iEv_K (some ⟨gb, 0, none⟩) c8 es.length _ w9 _ false (PE.out.2.1.then_ hb9) (by rw [List.length_set]) Hy3.out)
              have bW9 := bthen (bthen bW6 PE.out.2.2) hb9
              go_wp2_with fail
              (with_reducible refine KY.out.mono ?_)
              rintro e w10 ⟨rfl, hb10⟩
              go_wp2_with fail
              go_ret
              exact ⟨rfl, bthen bW9 hb10⟩
          · have e2 : Evs w2 w2.heap.size (some ⟨ga, (k + 1) * 2, none⟩) (c1 - (k + 1)) xs2 := by
              have := ho2.evs.cut (k + 1) (by omega)
              rw [if_neg hck, ← hxs2] at this
              have ha : (⟨ga, 0, none⟩ : Addr).add ((k + 1) * 2) = ⟨ga, (k + 1) * 2, none⟩ := by unfold Addr.add; split <;> simp_all
              rw [← ha]
              exact this
            have E2 := Lib.hid e2
            have Hx3 := Lib.hid (show evsOk xs3 = true by rw [hxs3, hxs1, hxs2]; exact evsOk_part Hok.out k)
            have Hy3 := Lib.hid (evsOk_zero hkl es[k].name)
            clear hxs1 hxs2 hxs3 ee e2 hb21
            have Hel := Lib.hid hel
            have hk5 : IntKind.i64.wrap ((k : Int) + 1) = (k : Int) + 1 := IntWalk.i64_in _ (by omega)
            have hk6 : (0 : Int) ≤ (k : Int) + 1 := by omega
            have hk7 : ((k : Int) + 1).toNat = k + 1 := by omega
            go_upto_region 9 with fail
            rw [hmod2.out]
            clear hmod2
            go_region_law (first
              | (refine step_append_evs _ rfl (.tmp 45) (.tmp 48) rfl w2.heap.size (some ⟨w2.heap.size, 0, none⟩) 0 [] 0 (by simp [Act.eval]) (Lib.hid rfl) o1.out (some ⟨ga, 0, none⟩) c1 _ xs1 k (by simp [Act.eval]) hl1 (show Evs (w2.alloc (.cells #[] 41)).drew _ _ _ _ from e1.out.keep fun _ _ => rfl) xs1 rfl (by omega) (by simp) ?_; intro A5 c5 w5 ho5 hl5 hg5; have hz5 := hl5.size)
              | (refine step_append_evs _ rfl (.tmp 49) (.tmp 53) rfl w2.heap.size A5 c5 xs1 xs1.length (by simp [Act.eval]) (Lib.hid rfl) ho5 _ _ w2.heap.size xs2 (es.length - (k + 1)) rfl hl2 (E2.out.below (hlow.out.trans hl5)) xs3 H3.out.2.2 (by omega) (by simp at hz5; omega) ?_; intro A6 c6 w6 ho6 hl6 hg6; have hz6 := hl6.size))
            all_goals
              have b26 := (hlow.out.trans hl5).trans hl6
              have ev6 := ho2.evs.then_ b26
              have bW6 := bthen b2 b26
              have o7 := Lib.hid (show OwnEvs (w6.alloc (.cells #[] 41)) w6.heap.size (some ⟨w6.heap.size, 0, none⟩) 0 [] from ⟨World.ownsRow_lit w6 #[] 0 (Nat.le_refl _) (by simp only [maxLen]; omega) rfl, fun x hx => by cases hx⟩)
              have e7 := Lib.hid (ev6.alloc (.cells #[] 41))
              go_wp2_with (at_builtin; (refine wpList_append_evs _ rfl (.tmp 55) (.tmp 56) rfl w6.heap.size (some ⟨w6.heap.size, 0, none⟩) 0 [] 0 rfl (Lib.hid rfl) o7.out _ _ _ es es.length rfl (Lib.hid rfl) e7.out es rfl (by omega) (by simp) ?_); intro A8 c8 w8 ho8 hl8 hg8; obtain ⟨gb, rfl, hgb, hgbl, hfz8, hcell8⟩ := ownEvs_form ho8 h0; obtain ⟨hq0, hq1⟩ := hcell8 k hkl; have hqf := hfz8 (k * 2); have hc8l := ho8.evs.len; have hc8c := ho8.evs.cap; have PE := Lib.hid (part_end ho6 hl8 ho8 hgb k hkl))
              have KX := Lib.hid (iEv_K A6 c6 xs3.length xs3 _ _ true PE.out.1 rfl Hx3.out)
              go_wp2_with fail
              (with_reducible refine KX.out.mono ?_)
              rintro e w9 ⟨rfl, hb9⟩
              have KY := Lib.hid (iEv_K (some ⟨gb, 0, none⟩) c8 es.length _ w9 _ false (PE.out.2.1.then_ hb9) (by rw [List.length_set]) Hy3.out)
              have bW9 := bthen (bthen bW6 PE.out.2.2) hb9
              go_wp2_with fail
              (with_reducible refine KY.out.mono ?_)
              rintro e w10 ⟨rfl, hb10⟩
              go_wp2_with fail
              go_ret
              exact ⟨rfl, bthen bW9 hb10⟩
        · obtain rfl : es = [] := List.eq_nil_of_length_eq_zero (by omega)
          go_wp2_with fail
          go_ret
          exact ⟨rfl, b2⟩

set_option maxRecDepth 100000 in
theorem fnEventsValid_lifted (os : Os) (started : os.Started) (H : Type) (enc : TypeId × Value → H) :
    ReturnsInHanded {} Try.checked os 9 .any (Rows.fnEventsValidSpec.pre6 enc Try.prog Try.f9 Rows.fnEventsValidRow.domain false) (Rows.fnEventsValidSpec.post enc Try.prog Try.f9 false true false false) := by
  refine returnsInHanded_of_change (C := Try.checked) own started (by kernel_rfl) Try.func9
    (ChangeSpec.witness6 (enc := enc) (C := Try.checked) false ⟨#[], #[.slice none 0 0, .slice none 0 0], []⟩ 8 (by kernel_rfl) (by kernel_rfl) (by kernel_rfl) (by kernel_rfl)) ?_
  intro W base args ds gs before hval0 hW _ _
  have hval : ∀ (j : Nat) t v, Try.f9.params[j]? = some t → args[j]? = some v → Value.okWide Try.prog W .any base t v := hval0
  obtain ⟨p, q, hA0, hV, _⟩ := id hW
  have hA : DataW.TrodAll enc Try.prog W 0 (fun _ => true) true Try.f9.params.toList args.toList ds p := hA0
  rw [Try.params9] at hA hval
  obtain ⟨v0, v1, d0, d1, p0, p1, rfl, rfl, rfl, h0, h1⟩ := trodAll_two hA
  obtain ⟨rfl, rfl⟩ := trodVars_none hV
  refine (eventsValid_law W v0 v1 (arg_code (hval 0 _ v0 rfl rfl) h0) (arg_code (hval 1 _ v1 rfl rfl) h1)).mono fun e W' ⟨he, hw⟩ => ?_
  subst he
  exact ⟨_, rfl, law_post laidOut (readable_of (by kernel_rfl)) rfl Try.underlying4 rfl rfl rfl rfl hW hw⟩

theorem fnEventsValid_holds : Rows.FnEventsValidSaid :=
  OpenClaim.holds_of_wide 9 Try.f9 rfl rfl rfl rfl rfl rfl rfl ⟨rfl, rfl, rfl, rfl, rfl⟩ rfl rfl rfl rfl rfl (by kernel_rfl) Try.func9 (by kernel_rfl)
    (of_decide_eq_true (by kernel_rfl)) (by unfold Func.isWrapper; rw [if_neg (of_decide_eq_false (by kernel_rfl))]; exact ⟨rfl, rfl⟩)
    (fun os started H enc _ => fnEventsValid_lifted os started H enc)

end Go.Proofs.Ytcdccdgegmnhnaa
