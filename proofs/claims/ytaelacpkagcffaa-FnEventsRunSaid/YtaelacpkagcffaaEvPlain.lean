/- Plain results of EventsRun and EventsOf, and laws on them. No condition. -/
import Derived.Test.YtaelacpkagcffaaEventRun
import Derived.Test.YtaelacpkagcffaaEvWords
namespace Go.Proofs.Ytaelacpkagcffaa
set_option linter.unusedVariables false
set_option maxRecDepth 100000

/-- What events do, up to the first one that does not fit; k counts them. -/
def evGo (ver : Int) (ss : List St) : Int → List ByteArray → List Ev → Nat → Int × List ByteArray × Nat
  | st, done, [], k => (st, done, k)
  | st, done, e :: r, k => if evB ver ss st done e.kind e.name = true then evGo ver ss (evSt ver ss st done e.kind e.name) (evDone ver ss st done e.kind e.name) r (k + 1) else (st, done, k)
section
variable {ver st : Int} {ss : List St} {done : List ByteArray} {es : List Ev} {k : Nat}
theorem evGo_nil : evGo ver ss st done [] k = (st, done, k) := rfl
theorem evGo_yes {e : Ev} {r : List Ev} (h : evB ver ss st done e.kind e.name = true) : evGo ver ss st done (e :: r) k = evGo ver ss (evSt ver ss st done e.kind e.name) (evDone ver ss st done e.kind e.name) r (k + 1) := by
  simp only [evGo]; rw [if_pos h]
theorem evGo_no {e : Ev} {r : List Ev} (h : evB ver ss st done e.kind e.name = false) : evGo ver ss st done (e :: r) k = (st, done, k) := by
  simp only [evGo]; rw [if_neg (by rw [h]; decide)]
theorem evGo_end (hk : es.length ≤ k) : evGo ver ss st done (es.drop k) k = (st, done, k) := by
  rw [List.drop_eq_nil_of_le hk]; rfl
theorem evGo_step (hk : k < es.length) (h : evB ver ss st done es[k].kind es[k].name = true) :
    evGo ver ss st done (es.drop k) k = evGo ver ss (evSt ver ss st done es[k].kind es[k].name) (evDone ver ss st done es[k].kind es[k].name) (es.drop (k + 1)) (k + 1) := by
  rw [List.drop_eq_getElem_cons hk, evGo_yes h]
theorem evGo_stop (hk : k < es.length) (h : evB ver ss st done es[k].kind es[k].name = false) : evGo ver ss st done (es.drop k) k = (st, done, k) := by
  rw [List.drop_eq_getElem_cons hk, evGo_no h]
theorem evGo_bounds : ∀ (es : List Ev) (st : Int) (done : List ByteArray) (k : Nat), k ≤ (evGo ver ss st done es k).2.2 ∧ (evGo ver ss st done es k).2.2 ≤ k + es.length
  | [], st, done, k => ⟨Nat.le_refl _, Nat.le_refl _⟩
  | e :: r, st, done, k => by
    cases h : evB ver ss st done e.kind e.name
    · rw [evGo_no h]; exact ⟨Nat.le_refl _, Nat.le_add_right _ _⟩
    · rw [evGo_yes h]
      have := evGo_bounds r (evSt ver ss st done e.kind e.name) (evDone ver ss st done e.kind e.name) (k + 1)
      simp only [List.length_cons]
      omega
/-- Later events do not count. -/
theorem evGo_take : ∀ (es : List Ev) (st : Int) (done : List ByteArray) (k : Nat), evGo ver ss st done (es.take ((evGo ver ss st done es k).2.2 - k)) k = evGo ver ss st done es k
  | [], st, done, k => by simp [evGo]
  | e :: r, st, done, k => by
    cases h : evB ver ss st done e.kind e.name
    · rw [evGo_no h]; simp [evGo]
    · rw [evGo_yes h]
      have hb := (evGo_bounds (ver := ver) (ss := ss) r (evSt ver ss st done e.kind e.name) (evDone ver ss st done e.kind e.name) (k + 1)).1
      have ih := evGo_take r (evSt ver ss st done e.kind e.name) (evDone ver ss st done e.kind e.name) (k + 1)
      obtain ⟨m, hm⟩ : ∃ m, (evGo ver ss (evSt ver ss st done e.kind e.name) (evDone ver ss st done e.kind e.name) r (k + 1)).2.2 = k + 1 + m := ⟨_, (Nat.add_sub_cancel' hb).symm⟩
      rw [hm] at ih ⊢
      rw [show k + 1 + m - k = m + 1 from by omega, List.take_succ_cons, evGo_yes h]
      rw [show k + 1 + m - (k + 1) = m from by omega] at ih
      exact ih
theorem runOk_new (h : flowOk ver ss = true) : runOk ver ss 0 [] = true := by
  obtain ⟨_, _, h1, _, _, _, _⟩ := flowOk_iff.1 h
  refine runOk_iff.2 ⟨h, doneOk_iff.2 fun i hi => absurd hi (by simp), ?_⟩
  rw [stOk_zero]
  have : ¬ ([] : List ByteArray).length = ss.length := by simp; omega
  rw [decide_eq_false this]; rfl
variable {kd : Int} {nm : ByteArray}
theorem evB_cases (h : evB ver ss st done kd nm = true) : (kd = 1 ∧ canB ver ss st done nm = true) ∨ (kd = 2 ∧ canB ver ss st done nm = true) ∨ (kd = 3 ∧ undoB ver ss st done = true ∧ undoName ver ss st done = nm) := by
  unfold evB at h
  by_cases h1 : kd = 1
  · rw [if_pos h1] at h; exact .inl ⟨h1, h⟩
  · rw [if_neg h1] at h
    by_cases h2 : kd = 2
    · rw [if_pos h2] at h; exact .inr (.inl ⟨h2, h⟩)
    · rw [if_neg h2] at h
      by_cases h3 : kd = 3
      · rw [if_pos h3] at h
        simp only [Bool.and_eq_true, decide_eq_true_eq] at h
        exact .inr (.inr ⟨h3, h.1, h.2⟩)
      · rw [if_neg h3] at h; cases h
/-- What an event gives is a run. -/
theorem ev_ok (h : evB ver ss st done kd nm = true) : runOk ver ss (evSt ver ss st done kd nm) (evDone ver ss st done kd nm) = true := by
  rcases evB_cases h with ⟨rfl, h1⟩ | ⟨rfl, h1⟩ | ⟨rfl, h1, h2⟩
  · obtain ⟨_, e1, e2⟩ := @ev_one ver st ss done nm
    rw [e1, e2]; exact do_ok h1
  · obtain ⟨_, e1, e2⟩ := @ev_two ver st ss done nm
    rw [e1, e2]; exact fail_ok h1
  · obtain ⟨_, e1, e2⟩ := ev_three h1 h2
    rw [e1, e2]; exact undo_ok h1
/-- An event is what has become of a step. -/
theorem ev_len (h : evB ver ss st done kd nm = true) : (kd = 1 → (evDone ver ss st done kd nm).length = done.length + 1) ∧ (kd = 2 → (evDone ver ss st done kd nm).length = done.length) ∧ (¬ kd = 1 → ¬ kd = 2 → 1 ≤ done.length ∧ (evDone ver ss st done kd nm).length = done.length - 1) := by
  rcases evB_cases h with ⟨rfl, h1⟩ | ⟨rfl, h1⟩ | ⟨rfl, h1, h2⟩
  · obtain ⟨_, e1, e2⟩ := @ev_one ver st ss done nm
    rw [e2, doDone_yes h1]; simp
  · obtain ⟨_, e1, e2⟩ := @ev_two ver st ss done nm
    rw [e2, failDone_yes h1]; simp
  · obtain ⟨_, e1, e2⟩ := ev_three h1 h2
    rw [e2, undoDone_yes h1]
    obtain ⟨hr, rfl⟩ := undoB_iff.1 h1
    have := back_pos hr
    simp; omega
/-- An event is of a step that is next. -/
theorem ev_next (h : evB ver ss st done kd nm = true) : nm ∈ nextOut ver ss st done := by
  rcases evB_cases h with ⟨rfl, h1⟩ | ⟨rfl, h1⟩ | ⟨rfl, h1, h2⟩
  · exact (do_next h1).1
  · exact (do_next h1).1
  · rw [← h2, undoName_yes h1]
    obtain ⟨hr, rfl⟩ := undoB_iff.1 h1
    rw [nextOut_one hr]; simp
theorem ev_done_len (h : runOk ver ss st done = true) (h2 : evB ver ss st done kd nm = true) : (evDone ver ss st done kd nm).length ≤ ss.length := run_len (ev_ok h2)
theorem evDone_le (ver st : Int) (ss : List St) (done : List ByteArray) (kd : Int) (nm : ByteArray) : (evDone ver ss st done kd nm).length ≤ done.length + 1 := by
  have h1 := do_len ver st ss done nm
  have h2 := fail_len ver st ss done nm
  have h3 := undo_len ver st ss done
  unfold evDone
  (repeat' split) <;> first | omega | simp
theorem evGo_ok : ∀ (es : List Ev) (st : Int) (done : List ByteArray) (k : Nat), runOk ver ss st done = true → runOk ver ss (evGo ver ss st done es k).1 (evGo ver ss st done es k).2.1 = true
  | [], st, done, k, h => h
  | e :: r, st, done, k, h => by
    cases hb : evB ver ss st done e.kind e.name
    · rw [evGo_no hb]; exact h
    · rw [evGo_yes hb]; exact evGo_ok r _ _ _ (ev_ok hb)

/-- Whether EventsRun takes its arguments, and what it gives. -/
def erB (ver : Int) (ss : List St) (es : List Ev) : Bool := flowOk ver ss && evsOk es
def erSt (ver : Int) (ss : List St) (es : List Ev) : Int := if erB ver ss es then (evGo ver ss 0 [] es 0).1 else 0
def erDone (ver : Int) (ss : List St) (es : List Ev) : List ByteArray := if erB ver ss es then (evGo ver ss 0 [] es 0).2.1 else []
def erN (ver : Int) (ss : List St) (es : List Ev) : Nat := if erB ver ss es then (evGo ver ss 0 [] es 0).2.2 else 0
theorem erB_iff : erB ver ss es = true ↔ flowOk ver ss = true ∧ evsOk es = true := by unfold erB; simp
theorem er_no (h : erB ver ss es = false) : erSt ver ss es = 0 ∧ erDone ver ss es = [] ∧ erN ver ss es = 0 := by
  unfold erSt erDone erN; rw [h]; exact ⟨rfl, rfl, rfl⟩
theorem er_yes (h : erB ver ss es = true) {a : Int} {b : List ByteArray} {n : Nat} (e : evGo ver ss 0 [] es 0 = (a, b, n)) : erSt ver ss es = a ∧ erDone ver ss es = b ∧ erN ver ss es = n := by
  unfold erSt erDone erN; rw [h, e]; exact ⟨rfl, rfl, rfl⟩
theorem er_go (h : erB ver ss es = true) : evGo ver ss 0 [] es 0 = (erSt ver ss es, erDone ver ss es, erN ver ss es) := by
  unfold erSt erDone erN; rw [h]; rfl
theorem er_noFlow (h : flowOk ver ss = false) : erB ver ss es = false := by unfold erB; rw [h]; rfl
theorem er_noEvs (h : evsOk es = false) : erB ver ss es = false := by unfold erB; rw [h]; simp
theorem erN_le : erN ver ss es ≤ es.length := by
  unfold erN
  split
  · have := (evGo_bounds (ver := ver) (ss := ss) es 0 [] 0).2; omega
  · omega
theorem er_run (h : erB ver ss es = true) : runOk ver ss (erSt ver ss es) (erDone ver ss es) = true := by
  have := evGo_ok es 0 [] 0 (runOk_new (erB_iff.1 h).1)
  rw [er_go h] at this
  exact this
theorem evOk_of {e : Ev} (h : evsOk es = true) (he : e ∈ es) : evOk e = true := by
  unfold evsOk at h
  simp only [Bool.and_eq_true, List.all_eq_true] at h
  exact h.1 e he
theorem evsOk_take (h : evsOk es = true) (n : Nat) : evsOk (es.take n) = true := by
  unfold evsOk at h ⊢
  simp only [Bool.and_eq_true, List.all_eq_true, decide_eq_true_eq] at h ⊢
  refine ⟨fun e he => h.1 e (List.mem_of_mem_take he), ?_⟩
  rw [List.length_take]; omega
theorem er_take (h : erB ver ss es = true) : erB ver ss (es.take (erN ver ss es)) = true ∧ erSt ver ss (es.take (erN ver ss es)) = erSt ver ss es ∧ erDone ver ss (es.take (erN ver ss es)) = erDone ver ss es ∧ erN ver ss (es.take (erN ver ss es)) = erN ver ss es := by
  obtain ⟨h1, h2⟩ := erB_iff.1 h
  have hb : erB ver ss (es.take (erN ver ss es)) = true := erB_iff.2 ⟨h1, evsOk_take h2 _⟩
  have ht := evGo_take (ver := ver) (ss := ss) es 0 [] 0
  have e : (evGo ver ss 0 [] es 0).2.2 = erN ver ss es := by rw [er_go h]
  rw [e, Nat.sub_zero, er_go h] at ht
  exact ⟨hb, er_yes hb ht⟩
/-- Where the way stands behind k events. -/
theorem er_mid (h : erB ver ss es = true) (hk : evGo ver ss 0 [] es 0 = evGo ver ss st done (es.drop k) k) :
    (k < erN ver ss es → ∃ _ : k < es.length, evB ver ss st done es[k].kind es[k].name = true) ∧
    (k = erN ver ss es → erSt ver ss es = st ∧ erDone ver ss es = done ∧ ∀ hk2 : k < es.length, evB ver ss st done es[k].kind es[k].name = false) := by
  have hg := er_go h
  rw [hk] at hg
  rcases Nat.lt_or_ge k es.length with hl | hl
  · cases hb : evB ver ss st done es[k].kind es[k].name
    · rw [evGo_stop hl hb] at hg
      injection hg with e1 e2
      injection e2 with e2 e3
      exact ⟨fun hlt => absurd hlt (by omega), fun _ => ⟨e1.symm, e2.symm, fun _ => hb⟩⟩
    · refine ⟨fun _ => ⟨hl, hb⟩, fun e => ?_⟩
      rw [evGo_step hl hb] at hg
      have := (evGo_bounds (ver := ver) (ss := ss) (es.drop (k + 1)) (evSt ver ss st done es[k].kind es[k].name) (evDone ver ss st done es[k].kind es[k].name) (k + 1)).1
      rw [hg] at this
      simp only at this
      omega
  · rw [evGo_end hl] at hg
    injection hg with e1 e2
    injection e2 with e2 e3
    exact ⟨fun hlt => absurd hlt (by omega), fun _ => ⟨e1.symm, e2.symm, fun h2 => absurd h2 (by omega)⟩⟩

/-- The events that lead to a run. -/
def didEv (n : ByteArray) : Ev := ⟨1, n⟩
def tailEv (ss : List St) (st : Int) (done : List ByteArray) : List Ev := if st = 1 ∨ st = 3 then [⟨2, (ready ss done).headD ⟨#[]⟩⟩] else []
def evOf (ver : Int) (ss : List St) (st : Int) (done : List ByteArray) : List Ev := if runOk ver ss st done then done.map didEv ++ tailEv ss st done else []
theorem evOf_no (h : runOk ver ss st done = false) : evOf ver ss st done = [] := by unfold evOf; rw [h]; rfl
theorem evOf_yes (h : runOk ver ss st done = true) : evOf ver ss st done = done.map didEv ++ tailEv ss st done := by unfold evOf; rw [h]; rfl
theorem tailEv_yes (h : st = 1 ∨ st = 3) {r : List ByteArray} {n : ByteArray} (hr : ready ss done = n :: r) : tailEv ss st done = [⟨2, n⟩] := by unfold tailEv; rw [if_pos h, hr]; rfl
theorem tailEv_no (h1 : ¬ st = 1) (h3 : ¬ st = 3) : tailEv ss st done = [] := by unfold tailEv; rw [if_neg (by omega)]
theorem evOf_len (h : runOk ver ss st done = true) : (evOf ver ss st done).length = done.length + (if st = 1 ∨ st = 3 then 1 else 0) := by
  rw [evOf_yes h]
  unfold tailEv
  split <;> simp
/-- A run that goes back, or is undone, has something ready. -/
theorem back_ready (h : runOk ver ss st done = true) (hs : st = 1 ∨ st = 3) : ∃ n r, ready ss done = n :: r := by
  obtain ⟨hf, hd, hso⟩ := runOk_iff.1 h
  rw [stOk_bwd hs] at hso
  simp only [Bool.and_eq_true, decide_eq_true_eq] at hso
  have := ready_some hf hd (by omega)
  cases hr : ready ss done with
  | nil => exact absurd hr this
  | cons n r => exact ⟨n, r, rfl⟩
theorem did_go (hf : flowOk ver ss = true) (hd : doneOk ss done = true) (t : List Ev) : ∀ i, i ≤ done.length → evGo ver ss 0 [] (done.map didEv ++ t) 0 = evGo ver ss (forthSt ss (done.take i)) (done.take i) ((done.drop i).map didEv ++ t) i
  | 0, _ => by
    have : forthSt ss (done.take 0) = 0 := by
      unfold forthSt
      obtain ⟨_, _, h1, _⟩ := flowOk_iff.1 hf
      rw [if_neg (by simp; omega)]
    rw [this]; rfl
  | i + 1, hi => by
    rw [did_go hf hd t i (by omega), List.drop_eq_getElem_cons (by omega : i < done.length)]
    have hle := doneOk_len hd
    have h0 : forthSt ss (done.take i) = 0 := by
      unfold forthSt
      rw [if_neg (by rw [List.length_take]; omega)]
    have hc : canB ver ss 0 (done.take i) done[i] = true := by
      refine canB_iff.2 ⟨runOk_iff.2 ⟨hf, doneOk_take hd i, ?_⟩, rfl, doneOk_iff.1 hd i (by omega)⟩
      rw [stOk_zero]
      have : ¬ (done.take i).length = ss.length := by rw [List.length_take]; omega
      rw [decide_eq_false this]; rfl
    rw [h0, List.map_cons, List.cons_append]
    obtain ⟨e0, e1, e2⟩ := @ev_one ver 0 ss (done.take i) done[i]
    rw [evGo_yes (e := didEv done[i]) (by show evB ver ss 0 (done.take i) 1 done[i] = true; rw [e0]; exact hc)]
    show evGo ver ss (evSt ver ss 0 (done.take i) 1 done[i]) (evDone ver ss 0 (done.take i) 1 done[i]) _ _ = _
    rw [e1, e2, doSt_yes hc, doDone_yes hc, ← List.take_succ_eq_append_getElem (by omega)]
/-- Events lead to their run. -/
theorem evOf_go (h : runOk ver ss st done = true) : evGo ver ss 0 [] (evOf ver ss st done) 0 = (st, done, (evOf ver ss st done).length) := by
  obtain ⟨hf, hd, hso⟩ := runOk_iff.1 h
  have hlen := evOf_len h
  rw [hlen, evOf_yes h, did_go hf hd _ done.length (Nat.le_refl _), List.take_length, List.drop_length, List.map_nil, List.nil_append]
  have hle := doneOk_len hd
  by_cases hs : st = 1 ∨ st = 3
  · obtain ⟨n, r, hr⟩ := back_ready h hs
    rw [tailEv_yes hs hr, if_pos hs]
    rw [stOk_bwd hs] at hso
    simp only [Bool.and_eq_true, decide_eq_true_eq] at hso
    have h0 : forthSt ss done = 0 := by unfold forthSt; rw [if_neg (by omega)]
    have hc : canB ver ss 0 done n = true := by
      refine canB_iff.2 ⟨runOk_iff.2 ⟨hf, hd, ?_⟩, rfl, by rw [hr]; simp⟩
      rw [stOk_zero]
      have : ¬ done.length = ss.length := by omega
      rw [decide_eq_false this]; rfl
    obtain ⟨e0, e1, e2⟩ := @ev_two ver 0 ss done n
    rw [h0, evGo_yes (e := ⟨2, n⟩) (by show evB ver ss 0 done 2 n = true; rw [e0]; exact hc)]
    show evGo ver ss (evSt ver ss 0 done 2 n) (evDone ver ss 0 done 2 n) [] _ = _
    rw [e1, e2, failSt_yes hc, failDone_yes hc, ← hso.2]
    rfl
  · rw [tailEv_no (by omega) (by omega), if_neg hs, evGo_nil]
    have : st = 0 ∨ st = 2 := by rcases st_cases h with e | e | e | e <;> omega
    rw [stOk_fwd this] at hso
    have hso := of_decide_eq_true hso
    rw [← hso]
    rfl
theorem evOf_ok (h : runOk ver ss st done = true) : evsOk (evOf ver ss st done) = true := by
  obtain ⟨hf, hd, hso⟩ := runOk_iff.1 h
  have hasc := run_asc h
  have hok : ∀ n ∈ names ss, nameOk n = true := fun n hn => by
    obtain ⟨j, hj, rfl⟩ := List.getElem_of_mem hn
    exact (asc_iff.1 hasc j hj).1
  have h8 := run_ss h
  have hle := run_len h
  unfold evsOk
  simp only [Bool.and_eq_true, List.all_eq_true, decide_eq_true_eq]
  constructor
  · intro e he
    rw [evOf_yes h] at he
    rcases List.mem_append.1 he with he | he
    · obtain ⟨n, hn, rfl⟩ := List.mem_map.1 he
      have := hok n (doneOk_sub hd n hn)
      simp [evOk, didEv, this]
    · unfold tailEv at he
      split at he
      · rename_i hs
        obtain ⟨n, r, hr⟩ := back_ready h hs
        rw [hr] at he
        simp at he
        subst he
        have := hok n (ready_sub (done := done) (by rw [hr]; simp))
        simp [evOk, this]
      · cases he
  · rw [evOf_len h]
    split <;> omega
/-- Events lead to their run: what EventsRun gives for them. -/
theorem evOf_run (h : runOk ver ss st done = true) : erB ver ss (evOf ver ss st done) = true ∧ erSt ver ss (evOf ver ss st done) = st ∧ erDone ver ss (evOf ver ss st done) = done ∧ erN ver ss (evOf ver ss st done) = (evOf ver ss st done).length := by
  have hb : erB ver ss (evOf ver ss st done) = true := erB_iff.2 ⟨(runOk_iff.1 h).1, evOf_ok h⟩
  exact ⟨hb, er_yes hb (evOf_go h)⟩
theorem erDone_len (ver : Int) (ss : List St) (es : List Ev) : (erDone ver ss es).length ≤ 8 := by
  cases h : erB ver ss es
  · rw [(er_no h).2.1]; simp
  · have := er_run h
    exact Nat.le_trans (run_len this) (run_ss this)
theorem evOf_len9 (ver st : Int) (ss : List St) (done : List ByteArray) : (evOf ver ss st done).length ≤ 9 := by
  cases h : runOk ver ss st done
  · rw [evOf_no h]; simp
  · rw [evOf_len h]
    have := run_len h
    have := run_ss h
    split <;> omega
end
end Go.Proofs.Ytaelacpkagcffaa
