/- Contracts of FlowReady, FlowOrder, RunNew: program and reference. Condition: at most 2000000 steps. -/
import Derived.Test.YtfkjcldaclkkaaaFlowValid
import Derived.Test.YtfkjcldaclkkaaaSpecFlowValid
namespace Go.Proofs.Ytfkjcldaclkkaaa
set_option linter.unusedVariables false
set_option maxRecDepth 100000
open Go.RowKit

def readyOut (ver : Int) (ss : List St) (done : List ByteArray) : List ByteArray := if flowOk ver ss then ready ss done else []
def orderOut (ver : Int) (ss : List St) : List ByteArray := if flowOk ver ss then ord ss else []
theorem readyOut_no {ver : Int} {ss : List St} (h : flowOk ver ss = false) (done : List ByteArray) : readyOut ver ss done = [] := by unfold readyOut; rw [h]; rfl
theorem readyOut_yes {ver : Int} {ss : List St} (h : flowOk ver ss = true) (done : List ByteArray) : readyOut ver ss done = ready ss done := by unfold readyOut; rw [h]; rfl
theorem orderOut_no {ver : Int} {ss : List St} (h : flowOk ver ss = false) : orderOut ver ss = [] := by unfold orderOut; rw [h]; rfl
theorem orderOut_yes {ver : Int} {ss : List St} (h : flowOk ver ss = true) : orderOut ver ss = ord ss := by unfold orderOut; rw [h]; rfl
theorem flowOk_names {ver : Int} {ss : List St} (h : flowOk ver ss = true) : ∀ s ∈ ss, s.name ≠ ⟨#[]⟩ := by
  intro s hs e
  have e1 := (flowOk_iff.1 h).2.2.2.2.2.1 s hs
  unfold stepOk2 stepOk at e1
  simp only [Bool.and_eq_true] at e1
  have := nameOk_size e1.1.1.1.1
  rw [e] at this
  exact absurd this.1 (by decide)

/-- No names. -/
def noNames : List ByteArray := []
/-- A run is handed back, with a word whether all is fine; what is done lies in memory of the call's own. -/
def RetRun (st : Int) (done : List ByteArray) (ok : Bool) (w : World) (e : Ending) (w' : World) : Prop :=
  ∃ A c, e = .returned (.tuple #[.agg #[.int .i64 st, .slice A done.length c], .bool ok]) ∧ OwnStrs w' w.heap.size A c done ∧ Below w.heap.size w w'

theorem own_lit0 (w : World) (base : Nat) (hb : base ≤ w.heap.size) : OwnStrs (w.alloc (.cells #[] 9)) base (some ⟨w.heap.size, 0, none⟩) 0 [] :=
  ⟨World.ownsRow_lit w #[] 0 hb (by simp only [maxLen]; omega) rfl, fun x hx => by cases hx⟩



set_option maxHeartbeats 1000000 in
theorem iFlowOrder_any (ver : Int) (A : Option Addr) (c : Nat) (ss : List St) (w : World) (B : Nat) (h : Sts w B A c ss) (hl : ss.length ≤ 2000000) :
    Calls Try.prog 26 #[flowV ver A ss.length c] w (RetStrs (orderOut ver ss) w) := by
  have hb0 : Below w.heap.size w (w.alloc (.cells #[.int .i64 ver, .slice A ss.length c] 25)) := (Below.refl _ _).alloc (Nat.le_refl _) _
  have hbox := Cell2.new w (.int .i64 ver) (.slice A ss.length c) 25
  go_enter Try.func26, Try.ntmps26
  go_wp2_with fail
  refine (iFlowValid_any ver A c ss _ _ (h.then_ hb0)).mono ?_
  rintro e w1 ⟨rfl, hb1⟩
  have hb2 := bthen hb0 hb1
  obtain ⟨x0, x1⟩ := hbox.then_ hb1
  cases hok : flowOk ver ss
  · have Hout := Lib.hid (orderOut_no hok)
    clear hok
    go_wp2_with fail
    go_ret
    rw [Hout.out]
    exact ⟨none, 0, rfl, OwnStrs.nil_ _ _, hb2⟩
  · have Hout := Lib.hid (orderOut_yes hok)
    clear hok
    go_wp2_with fail
    (with_reducible refine (order_any ver A c ss w1 _ (h.then_ hb2) hl).mono ?_)
    rintro e w2 ⟨A2, c2, rfl, ho2, hb3⟩
    go_wp2_with fail
    go_ret
    rw [Hout.out]
    exact ⟨A2, c2, rfl, ho2.base_ hb2.size, bthen hb2 hb3⟩


set_option maxHeartbeats 2000000 in
theorem sFlowReady_any (ver : Int) (A D : Option Addr) (c d : Nat) (ss : List St) (done : List ByteArray) (w : World) (B B' : Nat) (h : Sts w B A c ss) (hd : Strs w B' D d done) (hl : ss.length ≤ 2000000) :
    Calls Try.prog 81 #[flowV ver A ss.length c, .slice D done.length d] w (RetStrs (readyOut ver ss done) w) := by
  have h1 := h.len
  have h2 := h.cap
  have hbox := (Cell2.new w (.int .i64 ver) (.slice A ss.length c) 25).alloc (.cells #[] 9)
  have ho0 : OwnStrs ((w.alloc (.cells #[.int .i64 ver, .slice A ss.length c] 25)).alloc (.cells #[] 9)) w.heap.size (some ⟨w.heap.size + 1, 0, none⟩) 0 [] := by
    have := own_lit0 (w.alloc (.cells #[.int .i64 ver, .slice A ss.length c] 25)) w.heap.size (by simp)
    simpa using this
  have hb0 : Below w.heap.size w ((w.alloc (.cells #[.int .i64 ver, .slice A ss.length c] 25)).alloc (.cells #[] 9)) := ((Below.refl _ _).alloc (Nat.le_refl _) _).alloc (by simp) _
  cases hok : flowOk ver ss
  · have Hout := Lib.hid (readyOut_no hok done)
    have Hok := Lib.hid hok
    clear hok
    go_enter Try.func81, Try.ntmps81
    go_wp2_with fail
    go_loopw [5, 6] (fun out i wr => out = .slice (some ⟨w.heap.size + 1, 0, none⟩) 0 0 ∧ i = .int .i64 0 ∧ OwnStrs wr w.heap.size (some ⟨w.heap.size + 1, 0, none⟩) 0 [] ∧ Below w.heap.size w wr ∧ Cell2 wr w.heap.size (.int .i64 ver) (.slice A ss.length c)) (fun _ i _ => 0)
    case atStart => exact ⟨rfl, rfl, ho0, hb0, hbox⟩
    case round =>
      clear hbox ho0 hb0
      obtain ⟨rfl, rfl, ho, hb, hbox⟩ := hrel
      obtain ⟨x0, x1⟩ := id hbox
      by_cases h0 : 0 < ss.length
      · go_wp2_with fail
        (with_reducible refine (sFlowValid_any ver A c ss _ _ (h.then_ hb) hl).mono ?_)
        rintro e w1 ⟨rfl, hb1⟩
        rw [Hok.out]
        go_wp2_with fail
        go_ret
        rw [Hout.out]
        exact ⟨_, 0, rfl, ho.below hb1, bthen hb hb1⟩
      · go_wp2_with fail
        go_ret
        rw [Hout.out]
        exact ⟨_, 0, rfl, ho, hb⟩
  · have Hout := Lib.hid (readyOut_yes hok done)
    have Hok := Lib.hid hok
    clear hok
    go_enter Try.func81, Try.ntmps81
    go_wp2_with fail
    go_loopw [5, 6] (fun out i wr => ∃ (k : Nat) (A' : Option Addr) (c' : Nat), k ≤ ss.length ∧ i = .int .i64 k ∧ out = .slice A' (ready (ss.take k) done).length c' ∧ OwnStrs wr w.heap.size A' c' (ready (ss.take k) done) ∧ Below w.heap.size w wr ∧ Cell2 wr w.heap.size (.int .i64 ver) (.slice A ss.length c) ∧
      (∀ p, A' = some p → p.block ≠ w.heap.size)) (fun _ i _ => ss.length - (intOf i).toNat)
    case atStart => exact ⟨0, _, 0, Nat.zero_le _, rfl, rfl, ho0, hb0, hbox, fun p hp => by cases hp; simp⟩
    case round =>
      clear hbox ho0 hb0
      obtain ⟨k, A', c', hk, rfl, rfl, ho, hb, hbox, hne⟩ := hrel
      obtain ⟨x0, x1⟩ := id hbox
      by_cases hlt : k < ss.length
      · go_wp2_with fail
        (with_reducible refine (sFlowValid_any ver A c ss _ _ (h.then_ hb) hl).mono ?_)
        rintro e w1 ⟨rfl, hb1⟩
        rw [Hok.out]
        have hb2 := bthen hb hb1
        have ho2 := ho.below hb1
        have hbox2 := hbox.then_ hb1
        have hbs := hb2.size
        clear x0 x1
        obtain ⟨x0, x1⟩ := id hbox2
        have hst := h.then_ hb2
        obtain ⟨ad, A1, c1, rfl, _, hc0, hc1, hc2, hs⟩ := hst.at_ hlt
        have hsz := h.lens k hlt
        have hd2 := hd.then_ hb2
        have hrs := Lib.hid (ready_take_succ hlt done)
        have hi0 : (0 : Int) ≤ k := by omega
        have hi1 : (k : Int) < ss.length := by omega
        cases hh : has done ss[k].name
        · have hp := place_neg_of_has hh
          cases hv : haveAll done ss[k].after
          · have hr : isReady done ss[k] = false := by unfold isReady; rw [hh, hv]; rfl
            have hrs2 := Lib.hid (show ready (ss.take (k + 1)) done = ready (ss.take k) done by rw [hrs.out, hr]; simp)
            clear hr
            go_wp2_with (first
              | (go_at_call 65; (with_reducible refine (l1At_any _ _ _ _ _ _ hd2).mono ?_); rintro e w' ⟨rfl, rfl⟩)
              | (go_at_call 97; (with_reducible refine (l1Have_any _ _ _ _ _ _ _ _ _ hd2 hs).mono ?_); rintro e w' ⟨rfl, rfl⟩; rw [hv]))
            go_roundw
            case rel => exact ⟨k + 1, A', c', by omega, by go_num, by rw [hrs2.out], by rw [hrs2.out]; exact ho2, hb2, hbox2, hne⟩
            case measure => simp [intOf]; omega
          · have hr : isReady done ss[k] = true := by unfold isReady; rw [hh, hv]; rfl
            have hrs2 := Lib.hid (show ready (ss.take (k + 1)) done = ready (ss.take k) done ++ [ss[k].name] by rw [hrs.out, hr]; simp)
            clear hr
            have hrl : (ready (ss.take k) done).length ≤ 2000000 := by have := ready_length (ss.take k) done; simp at this; omega
            go_wp2_with (first
              | (go_at_call 65; (with_reducible refine (l1At_any _ _ _ _ _ _ hd2).mono ?_); rintro e w' ⟨rfl, rfl⟩)
              | (go_at_call 97; (with_reducible refine (l1Have_any _ _ _ _ _ _ _ _ _ hd2 hs).mono ?_); rintro e w' ⟨rfl, rfl⟩; rw [hv])
              | (at_builtin; (refine wpList_append_name _ rfl (.tmp 38) (.tmp 45) rfl w.heap.size A' c' _ rfl (ho2.alloc _) ⟨w1.heap.size, 0, none⟩ 1 ss[k].name rfl (cell_new1 _ _ _) hsz hrl (by simp; omega) ?_); intro A3 c3 w3 hap))
            go_roundw
            case rel =>
              obtain ⟨hown, hlow, hgr, hat⟩ := hap
              rw [← hrs2.out] at hown
              have hA3 : ∀ p, A3 = some p → p.block ≠ w.heap.size := by
                intro p hp
                subst hp
                rcases hat with hat | hat
                · cases A' with
                  | none => cases hat
                  | some q => injection hat with hat; exact fun e => hne q rfl (hat.symm.trans e)
                · injection hat with hat
                  have h3 := hbox2.lt
                  have h4 : p.block = w1.heap.size + 1 := by simpa using hat
                  omega
              refine ⟨k + 1, A3, c3, by omega, by go_num, ?_, hown, (hb2.alloc hb2.size _).trans hlow, ?_, hA3⟩
              · rw [hrs2.out]; simp
              · have hc := hbox2.alloc (.cells #[.string ss[k].name] 9)
                have hrow : ∀ i, (⟨w.heap.size, i, none⟩ : Addr).block ≠ w1.heap.size := by intro i; have := hbox2.lt; show w.heap.size ≠ _; omega
                have hne2 : some w.heap.size ≠ A'.map (·.block) := by
                  cases A' with
                  | none => simp
                  | some q => intro e; injection e with e; exact hne q rfl e.symm
                exact ⟨hgr.cell hc.c0 hne2, hgr.cell hc.c1 hne2⟩
            case measure => simp [intOf]; omega
        · have hp := place_pos_of_has hh
          have hr : isReady done ss[k] = false := by unfold isReady; rw [hh]; rfl
          have hrs2 := Lib.hid (show ready (ss.take (k + 1)) done = ready (ss.take k) done by rw [hrs.out, hr]; simp)
          clear hr
          go_wp2_with (go_at_call 65; (with_reducible refine (l1At_any _ _ _ _ _ _ hd2).mono ?_); rintro e w' ⟨rfl, rfl⟩)
          go_roundw
          case rel => exact ⟨k + 1, A', c', by omega, by go_num, by rw [hrs2.out], by rw [hrs2.out]; exact ho2, hb2, hbox2, hne⟩
          case measure => simp [intOf]; omega
      · have hk' : ss.take k = ss := List.take_of_length_le (by omega)
        rw [hk'] at ho
        rw [hk']
        go_wp2_with fail
        go_ret
        rw [Hout.out]
        exact ⟨A', c', rfl, ho, hb⟩


set_option maxHeartbeats 1000000 in
theorem sRunNew_any (ver : Int) (A : Option Addr) (c : Nat) (ss : List St) (w : World) (B : Nat) (h : Sts w B A c ss) (hl : ss.length ≤ 2000000) :
    Calls Try.prog 101 #[flowV ver A ss.length c] w (RetRun 0 noNames (flowOk ver ss) w) := by
  have hb0 : Below w.heap.size w ((w.alloc (.cells #[.int .i64 ver, .slice A ss.length c] 25)).alloc (.cells #[.int .i64 0, .slice none 0 0] 52)) := ((Below.refl _ _).alloc (Nat.le_refl _) _).alloc (by simp) _
  go_enter Try.func101, Try.ntmps101
  go_wp2_with fail
  (with_reducible refine (sFlowValid_any ver A c ss _ _ (h.then_ hb0) hl).mono ?_)
  rintro e w1 ⟨rfl, hb1⟩
  have hb2 := bthen hb0 hb1
  obtain ⟨hc, hf⟩ := bcell hb1
  have hz : w.heap.size + 1 < w1.heap.size := by have := hb1.size; simp at this; omega
  cases hok : flowOk ver ss
  all_goals
    have Hok := Lib.hid hok
    clear hok
    go_wp2_with fail
  · refine bodyPost_ret (v := .tuple #[.agg #[.int .i64 0, .slice none 0 0], .bool false]) (by simp [results, Try.results101, go_sem, hc]) rfl ?_
    rw [Hok.out]
    exact ⟨none, 0, rfl, OwnStrs.nil_ _ _, (hb2.setCell (by show w.heap.size ≤ w.heap.size + 1; omega) _).setCell (by show w.heap.size ≤ w.heap.size + 1; omega) _⟩
  · have e := fun i => World.cell?_alloc_lt ((w1.setCell ⟨w.heap.size + 1, 0, none⟩ (.int .i64 0)).setCell ⟨w.heap.size + 1, 1, none⟩ (.slice (some ⟨w1.heap.size, 0, none⟩) 0 0)) (.cells #[] 9) ⟨w.heap.size + 1, i, none⟩ (by simp; omega)
    refine bodyPost_ret (v := .tuple #[.agg #[.int .i64 0, .slice (some ⟨w1.heap.size, 0, none⟩) 0 0], .bool true]) (by simp [results, Try.results101, go_sem, hc, e]) rfl ?_
    rw [Hok.out]
    refine ⟨_, 0, rfl, ?_, ((hb2.setCell (by show w.heap.size ≤ w.heap.size + 1; omega) _).setCell (by show w.heap.size ≤ w.heap.size + 1; omega) _).alloc (by simp; omega) _⟩
    have ho := own_lit0 ((w1.setCell ⟨w.heap.size + 1, 0, none⟩ (.int .i64 0)).setCell ⟨w.heap.size + 1, 1, none⟩ (.slice (some ⟨w1.heap.size, 0, none⟩) 0 0)) w.heap.size (by simp; omega)
    have ho2 : OwnStrs _ _ _ _ noNames := ho
    simpa using ho2
end Go.Proofs.Ytfkjcldaclkkaaa
