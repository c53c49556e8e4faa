/- FnReadyDone returns true for every code. No condition. -/
import Derived.Test.YtcammncomeiciaaArgs
import Derived.Test.YtcammncomeiciaaFlowFns
import Derived.Test.YtcammncomeiciaaDrawReady
import Derived.Test.YtcammncomeiciaaTexts
import Derived.Test.YtcammncomeiciaaAppend2
import Derived.Test.YtcammncomeiciaaOrderPlain
namespace Go.Proofs.Ytcammncomeiciaa
set_option linter.unusedVariables false
open Go.ChangeShapes Go.WideShapes Go.ChangeAt Go.RowKit

theorem Sts.alloc2 {w : World} {B c : Nat} {A : Option Addr} {ss : List St} (h : Sts w B A c ss) (o : Obj) : Sts (w.alloc o) w.heap.size A c ss := h.fit.alloc (Nat.le_refl _) o
theorem Strs.alloc2 {w : World} {B c : Nat} {A : Option Addr} {xs : List ByteArray} (h : Strs w B A c xs) (o : Obj) : Strs (w.alloc o) w.heap.size A c xs := h.fit.alloc (Nat.le_refl _) o
theorem run_cut1 (A : Option Addr) (n c k : Nat) (hk : k ≤ n) (w : World) :
    (Instr.slice 28 (.slice A n c) (some (.int .i64 k)) none none).run Try.prog w = .ok (.slice (cutA A c k) (n - k) (c - k)) w := by
  rw [run_slice_l (P := Try.prog) (w := w) 28 A n c (by kernel_rfl) .i64 k (by omega) (by omega)]
  have hs : (sizeOf (Try.prog.elem 28)).run Try.prog w = .ok 1 w := by kernel_rfl
  rw [hs]
  simp [sliced, cutA, Result.andThen]
theorem names_nodup {ss : List St} (h : asc (names ss) = true) : (names ss).Nodup := by
  rw [List.nodup_iff_pairwise_ne, List.pairwise_iff_getElem]
  intro i j hi hj hij
  exact asc_ne h hij hj
theorem ready_more {ver : Int} {ss : List St} {done r : List ByteArray} {X : ByteArray} (hok : flowOk ver ss = true) (h : ready ss done = X :: r) : X ∉ ready ss (done ++ [X]) ∧ haveAll (ready ss (done ++ [X])) r = true := by
  obtain ⟨_, _, _, _, hasc, _, _⟩ := flowOk_iff.1 hok
  refine ⟨fun hm => ready_notDone hm (by simp), haveAll_iff.2 fun y hy => ?_⟩
  have hnd : (ready ss done).Nodup := by
    unfold ready names
    exact (names_nodup hasc).sublist (List.Sublist.map _ (List.filter_sublist))
  rw [h] at hnd
  have hne : y ≠ X := fun e => (List.nodup_cons.1 hnd).1 (e ▸ hy)
  have hm : y ∈ ready ss done := by rw [h]; simp [hy]
  obtain ⟨s, hs, hr, rfl⟩ := mem_ready.1 hm
  refine mem_ready.2 ⟨s, hs, ?_, rfl⟩
  unfold isReady at hr ⊢
  simp only [Bool.and_eq_true, Bool.not_eq_true'] at hr ⊢
  refine ⟨has_no fun hm2 => ?_, ?_⟩
  · rcases List.mem_append.1 hm2 with hm2 | hm2
    · exact has_notMem hr.1 hm2
    · simp at hm2; exact hne hm2
  · rw [haveAll_iff] at hr ⊢
    exact fun z hz => List.mem_append.2 (.inl (hr.2 z hz))

set_option maxHeartbeats 8000000 in
theorem readyDone_law (W : World) (v : Value) (h : IsCode W v) : Calls Try.prog 8 #[v] W fun e W' => e = .returned (.bool true) ∧ Below W.heap.size W W' := by
  obtain ⟨A, c, zs, rfl, hz⟩ := h
  have hl := hz.len
  have hc := hz.cap
  by_cases h20 : 1048576 < zs.length
  · go_enter Try.func8, Try.ntmps8
    go_wp2
    go_ret
    exact ⟨rfl, Below.refl _ _⟩
  · go_enter Try.func8, Try.ntmps8
    go_wp2_with fail
    (with_reducible refine (drawFlowReady_any A c zs W hz).mono ?_)
    rintro e w1 ⟨ver, SA, D, sc, d, ss, done, rfl, hst, hd, h1, h6, hsm, hd6, b1⟩
    clear hsm
    go_wp2_with fail
    (with_reducible refine (iFlowReady_any ver SA D sc d ss done _ _ _ (hst.alloc2 _) (hd.alloc2 _) (by omega)).mono ?_)
    rintro e w2 ⟨A2, c2, rfl, ho2, hb2⟩
    have hb2' : Below w1.heap.size w1 w2 := bthen ((Below.refl _ _).alloc (Nat.le_refl _) _) hb2
    have q2 := (Cell2.new w1 (.int .i64 ver) (.slice SA ss.length sc) 25).then_ hb2
    obtain ⟨x0, x1⟩ := id q2
    go_wp2_with fail
    (with_reducible refine (sFlowReady_any ver SA D sc d ss done _ _ _ (hst.then_ hb2') (hd.then_ hb2') (by omega)).mono ?_)
    rintro e w3 ⟨A3, c3, rfl, ho3, hb3⟩
    go_wp2_with fail
    (with_reducible refine (sameTexts_same A2 A3 c2 c3 (readyOut ver ss done) _ _ _ (ho2.strs.then_ hb3) ho3.strs).mono ?_)
    rintro e w4 ⟨rfl, hb4⟩
    have b4 := bthen (bthen (bthen b1 hb2') hb3) hb4
    have t2 := (ho2.strs.then_ hb3).then_ hb4
    have t3 := ho3.strs.then_ hb4
    have q4 := (q2.then_ hb3).then_ hb4
    have s4 := ((hst.then_ hb2').then_ hb3).then_ hb4
    have d4 := ((hd.then_ hb2').then_ hb3).then_ hb4
    clear x0 x1 q2 hst hd hb2 hb2' hb3 hb4 ho2 ho3 b1
    by_cases hE : readyOut ver ss done = []
    · have h0 : (((readyOut ver ss done).length : Int) == 0) = true := by rw [hE]; rfl
      clear hE
      go_wp2_with fail
      (with_reducible refine (sameTexts_same A2 A3 c2 c3 (readyOut ver ss done) _ _ _ t2 t3).mono ?_)
      rintro e w5 ⟨rfl, hb5⟩
      go_wp2_with fail
      go_ret
      exact ⟨rfl, bthen b4 hb5⟩
    · obtain ⟨X, r, hr⟩ := List.exists_cons_of_ne_nil hE
      clear hE
      have hok : flowOk ver ss = true := by
        cases hok : flowOk ver ss
        · rw [readyOut_no hok] at hr; cases hr
        · rfl
      have hr' := hr
      rw [readyOut_yes hok] at hr'
      have hmore := ready_more hok hr'
      have hrl := ready_length ss done
      have hrl2 := ready_length ss (done ++ [X])
      rw [hr'] at hrl
      rw [hr] at t2 t3 ⊢
      have Hmore := Lib.hid hmore
      have Hok := Lib.hid hok
      clear hr hr' hmore hok
      obtain ⟨ad, rfl, _, hX⟩ := t2.at_ (k := 0) (by simp)
      have hadd : ad.add 0 = ad := by unfold Addr.add; simp
      rw [hadd] at hX
      simp only [List.getElem_cons_zero] at hX
      have hXs : X.size ≤ 9223372036854775807 := by have := t2.lens 0 (by simp); simpa using this
      have hl2 := t2.len
      have hc2 := t2.cap
      simp only [List.length_cons] at hl2 hrl
      have hcut : ∀ w : World, (Instr.slice 28 (.slice (some ad) (r.length + 1) c2) (some (.int .i64 1)) none none).run Try.prog w = .ok (.slice (cutA (some ad) c2 1) r.length (c2 - 1)) w := fun w => run_cut1 (some ad) (r.length + 1) c2 1 (by omega) w
      have tc := t2.cut 1 (by simp)
      obtain ⟨x0, x1⟩ := id q4
      go_upto_region 8 with fail
      have hq4 := q4.lt
      have hXb := World.block_lt_of_cell? w4 _ hX
      have hcl : ∀ w', Below w4.heap.size w4 w' → (w'.cell? ⟨w1.heap.size, 0, none⟩ = some (.int .i64 ver) ∧ w'.cell? ⟨w1.heap.size, 1, none⟩ = some (.slice SA ss.length sc) ∧ w'.cell? ad = some (.string X)) ∧ w4.heap.size ≤ w'.heap.size := fun w' hb => ⟨⟨(q4.then_ hb).c0, (q4.then_ hb).c1, (hb.cell hXb).trans hX⟩, hb.size⟩
      have Hcl := Lib.hid hcl
      have Hn0 : Hid (0 = ([] : List ByteArray).length) := rfl
      have Hm0 : Hid (done.length = done.length) := rfl
      have F1 := Lib.hid (own_move (w' := (w4.alloc (.cells #[] 9)).drew) (own_lit0 w4 w4.heap.size (Nat.le_refl _)) (fun _ _ _ => rfl))
      have F2 := Lib.hid (own_move (w' := ((w4.alloc (.cells #[] 9)).alloc (.cells #[.string X] 9)).drew) ((own_lit0 w4 w4.heap.size (Nat.le_refl _)).alloc (.cells #[.string X] 9)) (fun _ _ _ => rfl))
      have F3 : Hid (OwnStrs ((w4.alloc (.cells #[.string X] 9)).alloc (.cells #[] 9)).drew w4.heap.size (some ⟨w4.heap.size + 1, 0, none⟩) 0 []) := by
        have := own_lit0 (w4.alloc (.cells #[.string X] 9)) w4.heap.size (by simp)
        have h2 := own_move (w' := ((w4.alloc (.cells #[.string X] 9)).alloc (.cells #[] 9)).drew) this (fun _ _ _ => rfl)
        have h3 : OwnStrs ((w4.alloc (.cells #[.string X] 9)).alloc (.cells #[] 9)).drew w4.heap.size (some ⟨w4.heap.size + 1, 0, none⟩) 0 [] := by simpa using h2
        exact h3
      have D1 := Lib.hid (d4.alloc2 (.cells #[] 9)).drew
      have D2 := Lib.hid ((d4.alloc2 (.cells #[] 9)).alloc2 (.cells #[.string X] 9)).drew
      have D3 := Lib.hid ((d4.alloc2 (.cells #[.string X] 9)).alloc2 (.cells #[] 9)).drew
      have HB1 : Hid (∀ w', Below w4.heap.size (w4.alloc (.cells #[] 9)).drew w' → Below w4.heap.size w4 w' ∧ (w'.cell? ⟨w1.heap.size, 0, none⟩ = some (.int .i64 ver) ∧ w'.cell? ⟨w1.heap.size, 1, none⟩ = some (.slice SA ss.length sc) ∧ w'.cell? ad = some (.string X)) ∧ w4.heap.size ≤ w'.heap.size) := fun w' hb => ⟨(((Below.refl _ _).alloc (Nat.le_refl _) _).drew).trans hb, hcl _ ((((Below.refl _ _).alloc (Nat.le_refl _) _).drew).trans hb)⟩
      have HB2 : Hid (∀ w', Below w4.heap.size ((w4.alloc (.cells #[] 9)).alloc (.cells #[.string X] 9)).drew w' → Below w4.heap.size w4 w' ∧ (w'.cell? ⟨w1.heap.size, 0, none⟩ = some (.int .i64 ver) ∧ w'.cell? ⟨w1.heap.size, 1, none⟩ = some (.slice SA ss.length sc) ∧ w'.cell? ad = some (.string X)) ∧ w4.heap.size ≤ w'.heap.size) := fun w' hb => ⟨((((Below.refl _ _).alloc (Nat.le_refl _) _).alloc (by simp) _).drew).trans hb, hcl _ (((((Below.refl _ _).alloc (Nat.le_refl _) _).alloc (by simp) _).drew).trans hb)⟩
      have HB3 : Hid (∀ w', Below w4.heap.size ((w4.alloc (.cells #[.string X] 9)).alloc (.cells #[] 9)).drew w' → Below w4.heap.size w4 w' ∧ (w'.cell? ⟨w1.heap.size, 0, none⟩ = some (.int .i64 ver) ∧ w'.cell? ⟨w1.heap.size, 1, none⟩ = some (.slice SA ss.length sc) ∧ w'.cell? ad = some (.string X)) ∧ w4.heap.size ≤ w'.heap.size) := fun w' hb => ⟨((((Below.refl _ _).alloc (Nat.le_refl _) _).alloc (by simp) _).drew).trans hb, hcl _ (((((Below.refl _ _).alloc (Nat.le_refl _) _).alloc (by simp) _).drew).trans hb)⟩
      have X2 : Hid (((w4.alloc (.cells #[] 9)).alloc (.cells #[.string X] 9)).drew.cell? ⟨w4.heap.size + 1, 0, none⟩ = some (.string X)) := by
        have h3 : ((w4.alloc (.cells #[] 9)).alloc (.cells #[.string X] 9)).drew.cell? ⟨w4.heap.size + 1, 0, none⟩ = some (.string X) := by simp
        exact h3
      have X3 : Hid (((w4.alloc (.cells #[.string X] 9)).alloc (.cells #[] 9)).drew.cell? ⟨w4.heap.size, 0, none⟩ = some (.string X)) := cell_al (cell_new1 w4 (.string X) 9) _
      have n2 : some (w4.heap.size + 1) ≠ some w4.heap.size := by simp
      have n3 : some w4.heap.size ≠ some (w4.heap.size + 1) := by simp
      have Hn2 := Lib.hid n2
      have Hn3 := Lib.hid n3
      clear n2 n3 hcl hadd
      go_region_held3 (fun w' => w'.cell? ⟨w1.heap.size, 0, none⟩ = some (.int .i64 ver) ∧ w'.cell? ⟨w1.heap.size, 1, none⟩ = some (.slice SA ss.length sc) ∧ w'.cell? ad = some (.string X))
        (first | exact hS9 | exact hS8 | exact hS7 | exact And.intro (cell_al hS7.1 _) (And.intro (cell_al hS7.2.1 _) (cell_al hS7.2.2 _)) | exact And.intro (by with_reducible (repeat (first | exact x0 | refine cell_al ?_ _ | refine cell_dr ?_))) (And.intro (by with_reducible (repeat (first | exact x1 | refine cell_al ?_ _ | refine cell_dr ?_))) (by with_reducible (repeat (first | exact hX | refine cell_al ?_ _ | refine cell_dr ?_)))))
        (first
          | (refine step_append_strs _ rfl (.tmp 35) (.tmp 36) rfl w4.heap.size (some ⟨w4.heap.size, 0, none⟩) 0 [] 0 (by simp [Act.eval]) Hn0 F1.out D d _ done done.length (by simp [Act.eval]) Hm0 D1.out done rfl (by omega) (by simp) ?_; intro A7 c7 w7 ho7 hl7 hg7; obtain ⟨hB7, hS7, hz7⟩ := HB1.out _ hl7)
          | (refine step_append_strs _ rfl (.tmp 35) (.tmp 36) rfl w4.heap.size (some ⟨w4.heap.size, 0, none⟩) 0 [] 0 (by simp [Act.eval]) Hn0 F2.out D d _ done done.length (by simp [Act.eval]) Hm0 D2.out done rfl (by omega) (by simp; omega) ?_; intro A7 c7 w7 ho7 hl7 hg7; obtain ⟨hB7, hS7, hz7⟩ := HB2.out _ hl7; have hX7 := hg7.cell (a := ⟨w4.heap.size + 1, 0, none⟩) X2.out Hn2.out)
          | (refine step_append_strs _ rfl (.tmp 35) (.tmp 36) rfl w4.heap.size (some ⟨w4.heap.size + 1, 0, none⟩) 0 [] 0 (by simp [Act.eval]) Hn0 F3.out D d _ done done.length (by simp [Act.eval]) Hm0 D3.out done rfl (by omega) (by simp; omega) ?_; intro A7 c7 w7 ho7 hl7 hg7; obtain ⟨hB7, hS7, hz7⟩ := HB3.out _ hl7; have hX7 := hg7.cell (a := ⟨w4.heap.size, 0, none⟩) X3.out Hn3.out)
          | (refine step_append_name _ rfl (.tmp 37) (.tmp 41) rfl w4.heap.size A7 c7 done (by simp [Act.eval]) (ho7.alloc _) ⟨w7.heap.size, 0, none⟩ 1 X (by simp [Act.eval]) (cell_new1 _ _ _) hXs (by omega) (by simp; omega) ?_; intro A8 c8 w8 hap; have hB8 := (hB7.alloc hz7 _).trans hap.low; have ho8 := hap.own; obtain ⟨hS8, hz8⟩ := Hcl.out _ hB8)
          | (refine step_append_name _ rfl (.tmp 37) (.tmp 41) rfl w4.heap.size A7 c7 done (by simp [Act.eval]) ho7 ⟨w4.heap.size + 1, 0, none⟩ 1 X (by simp [Act.eval]) hX7 hXs (by omega) hz7 ?_; intro A8 c8 w8 hap; have hB8 := hB7.trans hap.low; have ho8 := hap.own; obtain ⟨hS8, hz8⟩ := Hcl.out _ hB8)
          | (refine step_append_name _ rfl (.tmp 37) (.tmp 41) rfl w4.heap.size A7 c7 done (by simp [Act.eval]) ho7 ⟨w4.heap.size, 0, none⟩ 1 X (by simp [Act.eval]) hX7 hXs (by omega) hz7 ?_; intro A8 c8 w8 hap; have hB8 := hB7.trans hap.low; have ho8 := hap.own; obtain ⟨hS8, hz8⟩ := Hcl.out _ hB8)
          | (go_at_call 22; (with_reducible refine (iFlowReady_n ver SA A8 sc c8 (done.length + 1) ss (done ++ [X]) w8 _ _ (Lib.hid (by simp)) (s4.then_ hB8) ho8.strs (by omega)).mono ?_); rintro e w9 ⟨A9, c9, rfl, ho9, hb9⟩; have hB9 := hB8.trans (hb9.mono hz8); obtain ⟨hS9, hz9⟩ := Hcl.out _ hB9))
      all_goals
        have t9 := ho9.strs
        have u9 := t2.then_ hB9
        have v9 := tc.then_ hB9
        have b9 := b4.trans (hB9.mono b4.size)
        have hX9 := (hB9.cell (p := ad) (by have := World.block_lt_of_cell? w4 _ hX; omega)).trans hX
        have hpl : place (readyOut ver ss (done ++ [X])) X < 0 := by rw [readyOut_yes Hok.out, place_notMem Hmore.out.1]; omega
        have hhv : haveAll (readyOut ver ss (done ++ [X])) r = true := by rw [readyOut_yes Hok.out]; exact Hmore.out.2
        have Hhv := Lib.hid hhv
        clear hhv x0 x1
        have hlr : ((List.drop 1 (X :: r)).length) = r.length := rfl
        go_wp2_with (first
          | (go_at_call 23; (with_reducible refine (placeOf_any _ _ _ _ _ _ t9).mono ?_); rintro e w' ⟨rfl, rfl⟩)
          | (go_at_call 24; (with_reducible refine (iNamesHave_n _ _ _ _ _ _ _ r _ _ _ (Lib.hid rfl) (Lib.hid rfl) t9 v9).mono ?_); rintro e w' ⟨rfl, rfl⟩; rw [Hhv.out]))
        go_ret
        exact ⟨rfl, b9⟩

set_option maxRecDepth 100000 in
theorem fnReadyDone_lifted (os : Os) (started : os.Started) (H : Type) (enc : TypeId × Value → H) :
    ReturnsInHanded {} Try.checked os 8 .any (Rows.fnReadyDoneSpec.pre6 enc Try.prog Try.f8 Rows.fnReadyDoneRow.domain false) (Rows.fnReadyDoneSpec.post enc Try.prog Try.f8 false true false false) := by
  refine returnsInHanded_of_change (C := Try.checked) own started (by kernel_rfl) Try.func8
    (ChangeSpec.witness6 (enc := enc) (C := Try.checked) false ⟨#[], #[.slice none 0 0], []⟩ 8 (by kernel_rfl) (by kernel_rfl) (by kernel_rfl) (by kernel_rfl)) ?_
  intro W base args ds gs before hval0 hW _ _
  have hval : ∀ (j : Nat) t v, Try.f8.params[j]? = some t → args[j]? = some v → Value.okWide Try.prog W .any base t v := hval0
  obtain ⟨p, q, hA0, hV, _⟩ := id hW
  have hA : DataW.TrodAll enc Try.prog W 0 (fun _ => true) true Try.f8.params.toList args.toList ds p := hA0
  rw [Try.params8] at hA hval
  obtain ⟨v0, d0, rfl, rfl, h0⟩ := trodAll_one hA
  obtain ⟨rfl, rfl⟩ := trodVars_none hV
  refine (readyDone_law W v0 (arg_code (hval 0 _ v0 rfl rfl) h0)).mono fun e W' ⟨he, hw⟩ => ?_
  subst he
  exact ⟨_, rfl, law_post laidOut (readable_of (by kernel_rfl)) rfl Try.underlying4 rfl rfl rfl rfl hW hw⟩

theorem fnReadyDone_holds : Rows.FnReadyDoneSaid :=
  OpenClaim.holds_of_wide 8 Try.f8 rfl rfl rfl rfl rfl rfl rfl ⟨rfl, rfl, rfl, rfl, rfl⟩ rfl rfl rfl rfl rfl (by kernel_rfl) Try.func8 (by kernel_rfl)
    (of_decide_eq_true (by kernel_rfl)) (by unfold Func.isWrapper; rw [if_neg (of_decide_eq_false (by kernel_rfl))]; exact ⟨rfl, rfl⟩)
    (fun os started H enc _ => fnReadyDone_lifted os started H enc)

end Go.Proofs.Ytcammncomeiciaa
