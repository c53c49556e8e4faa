/- Contracts of the reference's functions on runs: l3Back, RunDo, RunFail, RunUndo, RunNext. Condition: at most 2000000 steps. -/
import Derived.Test.YtfkjcldaclkkaaaSpecCan
import Derived.Test.YtfkjcldaclkkaaaRunFns
namespace Go.Proofs.Ytfkjcldaclkkaaa
set_option linter.unusedVariables false
set_option maxRecDepth 100000
open Go.RowKit

/-- A run is handed back, and no word beside it. -/
def RetBack (st : Int) (xs : List ByteArray) (w : World) (e : Ending) (w' : World) : Prop :=
  ∃ A c, e = .returned (.agg #[.int .i64 st, .slice A xs.length c]) ∧ OwnStrs w' w.heap.size A c xs ∧ Below w.heap.size w w'
theorem two_boxes (w : World) (x y p q : Value) (t1 t2 : TypeId) :
    Cell2 ((w.alloc (.cells #[x, y] t1)).alloc (.cells #[p, q] t2)) w.heap.size x y ∧
    Cell2 ((w.alloc (.cells #[x, y] t1)).alloc (.cells #[p, q] t2)) (w.heap.size + 1) p q ∧
    ∀ i, ((w.alloc (.cells #[x, y] t1)).alloc (.cells #[p, q] t2)).frozen? ⟨w.heap.size + 1, i, none⟩ = false := by
  have e2 : (w.alloc (.cells #[x, y] t1)).heap.size = w.heap.size + 1 := by simp
  have c2 := Cell2.new (w.alloc (.cells #[x, y] t1)) p q t2
  have c4 := heap_alloc_new (w.alloc (.cells #[x, y] t1)) (.cells #[p, q] t2)
  rw [e2] at c2 c4
  refine ⟨(Cell2.new w x y t1).alloc _, c2, fun i => ?_⟩
  unfold World.frozen?
  simp only [c4]
  rfl

set_option maxHeartbeats 2000000 in
theorem l3Back_any (ver : Int) (A D : Option Addr) (c d : Nat) (ss : List St) (done : List ByteArray) (w : World) (B B' : Nat) (h : Sts w B A c ss) (hd : Strs w B' D d done) (hn : Hid (∀ n ∈ done, n ∈ names ss)) (hdl : done.length ≤ 2000000) :
    Calls Try.prog 86 #[flowV ver A ss.length c, .slice D done.length d] w (RetBack (backSt ss done) done w) := by
  have h1 := h.len
  have h2 := h.cap
  have h3 := hd.len
  have h4 := hd.cap
  have b0 : Below w.heap.size w ((w.alloc (.cells #[.int .i64 ver, .slice A ss.length c] 25)).alloc (.cells #[.int .i64 0, .slice none 0 0] 52)) := ((Below.refl _ _).alloc (Nat.le_refl _) _).alloc (by simp) _
  obtain ⟨y1, y2, y3⟩ := two_boxes w (.int .i64 ver) (.slice A ss.length c) (.int .i64 0) (.slice none 0 0) 25 52
  have hO : OwnStrs (((w.alloc (.cells #[.int .i64 ver, .slice A ss.length c] 25)).alloc (.cells #[.int .i64 0, .slice none 0 0] 52)).alloc (.cells #[] 9)) (w.heap.size + 2) (some ⟨w.heap.size + 1 + 1, 0, none⟩) 0 [] := by
    have := own_lit0 ((w.alloc (.cells #[.int .i64 ver, .slice A ss.length c] 25)).alloc (.cells #[.int .i64 0, .slice none 0 0] 52)) (w.heap.size + 2) (by simp)
    simpa using this
  have hd0 := (hd.then_ b0).alloc b0.size (.cells #[] 9)
  have hB0 : Below (w.heap.size + 2) ((w.alloc (.cells #[.int .i64 ver, .slice A ss.length c] 25)).alloc (.cells #[.int .i64 0, .slice none 0 0] 52)) (((w.alloc (.cells #[.int .i64 ver, .slice A ss.length c] 25)).alloc (.cells #[.int .i64 0, .slice none 0 0] 52)).alloc (.cells #[] 9)) := (Below.refl _ _).alloc (by simp) _
  have HB3 : Hid (∀ w3, Below (w.heap.size + 2) (((w.alloc (.cells #[.int .i64 ver, .slice A ss.length c] 25)).alloc (.cells #[.int .i64 0, .slice none 0 0] 52)).alloc (.cells #[] 9)) w3 →
      Cell2 w3 w.heap.size (.int .i64 ver) (.slice A ss.length c) ∧ Cell2 w3 (w.heap.size + 1) (.int .i64 0) (.slice none 0 0) ∧ (∀ i, w3.frozen? ⟨w.heap.size + 1, i, none⟩ = false) ∧ Below w.heap.size w w3 ∧ w.heap.size < w3.heap.size ∧ w.heap.size + 1 < w3.heap.size) := fun w3 hb => by
    have hb' := hB0.trans hb
    have hz := hb.size
    simp at hz
    refine ⟨⟨(hb'.cell (p := ⟨w.heap.size, 0, none⟩) ?_).trans y1.c0, (hb'.cell (p := ⟨w.heap.size, 1, none⟩) ?_).trans y1.c1⟩, ⟨(hb'.cell (p := ⟨w.heap.size + 1, 0, none⟩) ?_).trans y2.c0, (hb'.cell (p := ⟨w.heap.size + 1, 1, none⟩) ?_).trans y2.c1⟩,
      fun i => (hb'.frozen (p := ⟨w.heap.size + 1, i, none⟩) ?_).trans (y3 i), b0.trans (hb'.mono (by omega)), by omega, by omega⟩
    all_goals first | (show w.heap.size < w.heap.size + 2; omega) | (show w.heap.size + 1 < w.heap.size + 2; omega)
  rcases leftN_back ss done with ⟨a, hk⟩ | ⟨a, hk⟩
  all_goals
    have Hk := Lib.hid hk
    obtain ⟨L, hL⟩ : ∃ L, L = leftN ss done := ⟨_, rfl⟩
    rw [← hL] at a
    have HL := Lib.hid hL
    clear hk hL hB0 b0 y1 y2 y3
  · have a2 : ((L : Int) == (done.length : Int)) = false := beq_eq_false_iff_ne.2 (by omega)
    have a3 : (L == done.length) = false := beq_eq_false_iff_ne.2 (by omega)
    go_enter Try.func86, Try.ntmps86
    go_wp2_with (at_builtin; (refine wpList_append_strs _ rfl (.tmp 6) (.tmp 7) rfl (w.heap.size + 2) (some ⟨w.heap.size + 1 + 1, 0, none⟩) 0 [] rfl hO D d _ done rfl hd0 done rfl hdl (by simp) ?_); intro A3 c3 w3 ho3 hb3 hg3; obtain ⟨⟨f0, f1⟩, ⟨r0, r1⟩, rf, b3, hz0, hz4⟩ := HB3.out _ hb3)
    (with_reducible refine (l3Left_any _ _ _ _ _ _ _ _ _ ((h.then_ b3).fit.alloc (Nat.le_refl _) _) ((hd.then_ b3).fit.alloc (Nat.le_refl _) _) hn).mono ?_)
    rintro e w' ⟨rfl, rfl⟩
    rw [← HL.out]
    go_wp2_with fail
    have e := fun i => World.cell?_alloc_lt ((w3.setCell ⟨w.heap.size + 1, 0, none⟩ (.int .i64 1)).setCell ⟨w.heap.size + 1, 1, none⟩ (.slice A3 done.length c3)) (.cells #[.int .i64 1, .slice A3 done.length c3] 52) ⟨w.heap.size + 1, i, none⟩ (by simp; omega)
    refine bodyPost_ret (v := .agg #[.int .i64 1, .slice A3 done.length c3]) (by simp [results, Try.results86, go_sem, e, r0, r1]) rfl ?_
    rw [Hk.out]
    refine ⟨A3, c3, rfl, ?_, ((b3.setCell (by show w.heap.size ≤ w.heap.size + 1; omega) _).setCell (by show w.heap.size ≤ w.heap.size + 1; omega) _).alloc (by simp; omega) _⟩
    exact (((ho3.setLow (a := ⟨w.heap.size + 1, 0, none⟩) (by show w.heap.size + 1 < w.heap.size + 2; omega) _).setLow (a := ⟨w.heap.size + 1, 1, none⟩) (by show w.heap.size + 1 < w.heap.size + 2; omega) _).alloc _).base_ (by omega)
  · have a2 : ((L : Int) == (done.length : Int)) = true := beq_iff_eq.2 (by omega)
    have a3 : (L == done.length) = true := beq_iff_eq.2 a
    clear a
    go_enter Try.func86, Try.ntmps86
    go_wp2_with (at_builtin; (refine wpList_append_strs _ rfl (.tmp 6) (.tmp 7) rfl (w.heap.size + 2) (some ⟨w.heap.size + 1 + 1, 0, none⟩) 0 [] rfl hO D d _ done rfl hd0 done rfl hdl (by simp) ?_); intro A3 c3 w3 ho3 hb3 hg3; obtain ⟨⟨f0, f1⟩, ⟨r0, r1⟩, rf, b3, hz0, hz4⟩ := HB3.out _ hb3)
    (with_reducible refine (l3Left_any _ _ _ _ _ _ _ _ _ ((h.then_ b3).fit.alloc (Nat.le_refl _) _) ((hd.then_ b3).fit.alloc (Nat.le_refl _) _) hn).mono ?_)
    rintro e w' ⟨rfl, rfl⟩
    rw [← HL.out]
    go_wp2_with fail
    have e := fun i => World.cell?_alloc_lt ((w3.setCell ⟨w.heap.size + 1, 0, none⟩ (.int .i64 3)).setCell ⟨w.heap.size + 1, 1, none⟩ (.slice A3 done.length c3)) (.cells #[.int .i64 3, .slice A3 done.length c3] 52) ⟨w.heap.size + 1, i, none⟩ (by simp; omega)
    refine bodyPost_ret (v := .agg #[.int .i64 3, .slice A3 done.length c3]) (by simp [results, Try.results86, go_sem, e, r0, r1]) rfl ?_
    rw [Hk.out]
    refine ⟨A3, c3, rfl, ?_, ((b3.setCell (by show w.heap.size ≤ w.heap.size + 1; omega) _).setCell (by show w.heap.size ≤ w.heap.size + 1; omega) _).alloc (by simp; omega) _⟩
    exact (((ho3.setLow (a := ⟨w.heap.size + 1, 0, none⟩) (by show w.heap.size + 1 < w.heap.size + 2; omega) _).setLow (a := ⟨w.heap.size + 1, 1, none⟩) (by show w.heap.size + 1 < w.heap.size + 2; omega) _).alloc _).base_ (by omega)

theorem l3Back_n (ver : Int) (A D : Option Addr) (c d n : Nat) (ss : List St) (done : List ByteArray) (w : World) (B B' : Nat) (hm : Hid (done.length = n)) (h : Sts w B A c ss) (hd : Strs w B' D d done) (hn : Hid (∀ n ∈ done, n ∈ names ss)) (hdl : done.length ≤ 2000000) :
    Calls Try.prog 86 #[flowV ver A ss.length c, .slice D n d] w fun e w' => ∃ A' c', e = .returned (.agg #[.int .i64 (backSt ss done), .slice A' n c']) ∧ OwnStrs w' w.heap.size A' c' done ∧ Below w.heap.size w w' := by
  obtain rfl := hm.out
  exact l3Back_any ver A D c d ss done w B B' h hd hn hdl

set_option maxHeartbeats 2000000 in
theorem sRunFail_any (ver st : Int) (A D : Option Addr) (c d : Nat) (ss : List St) (done : List ByteArray) (nm : ByteArray) (w : World) (B B' : Nat) (h : Sts w B A c ss) (hd : Strs w B' D d done) (hl : ss.length ≤ 2000000) :
    Calls Try.prog 49 #[flowV ver A ss.length c, runV st D done.length d, .string nm] w (RetRun (failSt ver ss st done nm) (failDone ver ss st done nm) (canB ver ss st done nm) w) := by
  have b0 : Below w.heap.size w (((w.alloc (.cells #[.int .i64 ver, .slice A ss.length c] 25)).alloc (.cells #[.int .i64 st, .slice D done.length d] 52)).alloc (.cells #[.int .i64 0, .slice none 0 0] 52)) := (((Below.refl _ _).alloc (Nat.le_refl _) _).alloc (by simp) _).alloc (by simp; omega) _
  go_enter Try.func49, Try.ntmps49
  go_wp2_with fail
  (with_reducible refine (l3Can_any ver st A D c d ss done nm _ _ _ (h.then_ b0) (hd.then_ b0) hl).mono ?_)
  rintro e w1 ⟨rfl, hb1⟩
  have b1 := bthen b0 hb1
  obtain ⟨hc, hf⟩ := bcell hb1
  have hz : w.heap.size + 2 < w1.heap.size := by have := hb1.size; simp at this; omega
  have hz1 : w.heap.size + 1 < w1.heap.size := by omega
  have hz0 : w.heap.size < w1.heap.size := by omega
  cases hcan : canB ver ss st done nm
  · have e0 := Lib.hid hcan
    have e1 := Lib.hid (failSt_no hcan)
    have e2 := Lib.hid (failDone_no hcan)
    clear hcan
    go_wp2_with fail
    refine bodyPost_ret (v := .tuple #[.agg #[.int .i64 0, .slice none 0 0], .bool false]) (by simp [results, Try.results49, go_sem, hc]) rfl ?_
    rw [e0.out, e1.out, e2.out]
    exact ⟨none, 0, rfl, OwnStrs.nil_ _ _, (b1.setCell (by show w.heap.size ≤ w.heap.size + 2; omega) _).setCell (by show w.heap.size ≤ w.heap.size + 2; omega) _⟩
  · have e0 := Lib.hid hcan
    have e1 := Lib.hid (failSt_yes hcan)
    have e2 := Lib.hid (failDone_yes hcan)
    have hrun := (canB_iff.1 hcan).1
    have hlen := run_len hrun
    have hsub := Lib.hid (run_sub hrun)
    clear hcan hrun
    go_wp2_with fail
    (with_reducible refine (l3Back_any ver A D c d ss done w1 _ _ (h.then_ b1) (hd.then_ b1) hsub (by omega)).mono ?_)
    rintro e w2 ⟨A2, c2, rfl, ho2, hb2⟩
    have b2 := bthen b1 hb2
    obtain ⟨hc2, hf2⟩ := bcell hb2
    have hz2 : w.heap.size + 2 < w2.heap.size := by have := hb2.size; omega
    go_wp2_with fail
    refine bodyPost_ret (v := .tuple #[.agg #[.int .i64 (backSt ss done), .slice A2 done.length c2], .bool true]) (by simp [results, Try.results49, go_sem, hc2, hc, hz]) rfl ?_
    rw [e0.out, e1.out, e2.out]
    refine ⟨A2, c2, rfl, ?_, (b2.setCell (by show w.heap.size ≤ w.heap.size + 2; omega) _).setCell (by show w.heap.size ≤ w.heap.size + 2; omega) _⟩
    exact ((ho2.setLow (a := ⟨w.heap.size + 2, 0, none⟩) hz _).setLow (a := ⟨w.heap.size + 2, 1, none⟩) hz _).base_ (by omega)

set_option maxHeartbeats 2000000 in
theorem sRunNext_any (ver st : Int) (A D : Option Addr) (c d : Nat) (ss : List St) (done : List ByteArray) (w : World) (B B' : Nat) (h : Sts w B A c ss) (hd : Strs w B' D d done) (hl : ss.length ≤ 2000000) :
    Calls Try.prog 45 #[flowV ver A ss.length c, runV st D done.length d] w (RetStrs (nextOut ver ss st done) w) := by
  have hd1 := hd.len
  have hd2 := hd.cap
  have b0 : Below w.heap.size w ((w.alloc (.cells #[.int .i64 ver, .slice A ss.length c] 25)).alloc (.cells #[.int .i64 st, .slice D done.length d] 52)) := ((Below.refl _ _).alloc (Nat.le_refl _) _).alloc (by simp) _
  go_enter Try.func45, Try.ntmps45
  go_wp2_with fail
  (with_reducible refine (sRunValid_any ver st A D c d ss done _ _ _ (h.then_ b0) (hd.then_ b0) hl).mono ?_)
  rintro e w1 ⟨rfl, hb1⟩
  have b1 := bthen b0 hb1
  obtain ⟨hc, hf⟩ := bcell hb1
  have hz : w.heap.size + 1 < w1.heap.size := by have := hb1.size; simp at this; omega
  have hz0 : w.heap.size < w1.heap.size := by omega
  cases hok : runOk ver ss st done
  · have e1 := Lib.hid (nextOut_no hok)
    clear hok
    go_wp2_with fail
    go_ret
    rw [e1.out]
    exact ⟨_, 0, rfl, own_lit0 _ _ b1.size, b1.alloc b1.size _⟩
  · by_cases s0 : st = 0
    · subst s0
      have e1 := Lib.hid (nextOut_zero hok)
      have er := Lib.hid (readyOut_yes (runOk_iff.1 hok).1 done)
      clear hok
      go_wp2_with fail
      (with_reducible refine (sFlowReady_any ver A D c d ss done w1 _ _ (h.then_ b1) (hd.then_ b1) hl).mono ?_)
      rintro e w2 ⟨A2, c2, rfl, ho2, hb2⟩
      go_wp2_with fail
      go_ret
      rw [e1.out, ← er.out]
      exact ⟨A2, c2, rfl, ho2.base_ (by omega), bthen b1 hb2⟩
    · by_cases s1 : st = 1
      · subst s1
        have e1 := Lib.hid (nextOut_one hok)
        have hp := back_pos hok
        have hg := Lib.hid (getLastD_eq hp)
        clear hok
        obtain ⟨ad, rfl, _, hcell⟩ := (hd.then_ b1).at_ (k := done.length - 1) (by omega)
        have hj0 : (0 : Int) < done.length := by omega
        have hj1 : (0 : Int) ≤ (done.length : Int) - 1 := by omega
        have hj2 : (1 : Int) ≤ done.length := by omega
        have hj3 : (done.length : Int) - 1 < done.length := by omega
        have hj4 : IntKind.i64.wrap ((done.length : Int) - 1) = (done.length : Int) - 1 := IntWalk.i64_in _ (by omega)
        have hj5 : ((done.length : Int) - 1).toNat = done.length - 1 := by omega
        go_wp2_with fail
        go_ret
        rw [e1.out, hg.out]
        have hx : ∀ x ∈ [done[done.length - 1]'(by omega)], x.size ≤ 9223372036854775807 := by
          intro x hx
          simp at hx
          subst hx
          exact hd.lens _ _
        exact ⟨some ⟨w1.heap.size, 0, none⟩, 1, rfl, ⟨World.ownsRow_lit w1 #[.string (done[done.length - 1]'(by omega))] _ (by omega) (by show 1 ≤ maxLen; decide) rfl, hx⟩, b1.alloc b1.size _⟩
      · have e1 := Lib.hid (nextOut_end hok s0 s1)
        have n0 : (st == 0) = false := beq_eq_false_iff_ne.2 s0
        have n1 : (st == 1) = false := beq_eq_false_iff_ne.2 s1
        clear hok s0 s1
        go_wp2_with fail
        go_ret
        rw [e1.out]
        exact ⟨_, 0, rfl, own_lit0 _ _ b1.size, b1.alloc b1.size _⟩

set_option maxHeartbeats 2000000 in
theorem sRunDo_any (ver st : Int) (A D : Option Addr) (c d : Nat) (ss : List St) (done : List ByteArray) (nm : ByteArray) (w : World) (B B' : Nat) (h : Sts w B A c ss) (hd : Strs w B' D d done) (hnm : nm.size ≤ 9223372036854775807) (hl : ss.length ≤ 2000000) :
    Calls Try.prog 102 #[flowV ver A ss.length c, runV st D done.length d, .string nm] w (RetRun (doSt ver ss st done nm) (doDone ver ss st done nm) (canB ver ss st done nm) w) := by
  have b0 : Below w.heap.size w (((w.alloc (.cells #[.int .i64 ver, .slice A ss.length c] 25)).alloc (.cells #[.int .i64 st, .slice D done.length d] 52)).alloc (.cells #[.int .i64 0, .slice none 0 0] 52)) := (((Below.refl _ _).alloc (Nat.le_refl _) _).alloc (by simp) _).alloc (by simp; omega) _
  go_enter Try.func102, Try.ntmps102
  go_wp2_with fail
  (with_reducible refine (l3Can_any ver st A D c d ss done nm _ _ _ (h.then_ b0) (hd.then_ b0) hl).mono ?_)
  rintro e w1 ⟨rfl, hb1⟩
  have b1 := bthen b0 hb1
  obtain ⟨hc, hf⟩ := bcell hb1
  have hz : w.heap.size + 2 < w1.heap.size := by have := hb1.size; simp at this; omega
  have hz1 : w.heap.size + 1 < w1.heap.size := by omega
  have hz0 : w.heap.size < w1.heap.size := by omega
  cases hcan : canB ver ss st done nm
  · have e0 := Lib.hid hcan
    have e1 := Lib.hid (doSt_no hcan)
    have e2 := Lib.hid (doDone_no hcan)
    clear hcan
    go_wp2_with fail
    refine bodyPost_ret (v := .tuple #[.agg #[.int .i64 0, .slice none 0 0], .bool false]) (by simp [results, Try.results102, go_sem, hc]) rfl ?_
    rw [e0.out, e1.out, e2.out]
    exact ⟨none, 0, rfl, OwnStrs.nil_ _ _, (b1.setCell (by show w.heap.size ≤ w.heap.size + 2; omega) _).setCell (by show w.heap.size ≤ w.heap.size + 2; omega) _⟩
  · have e0 := Lib.hid hcan
    have e1 := Lib.hid (doSt_yes hcan)
    have e2 := Lib.hid (doDone_yes hcan)
    have hlen := can_len hcan
    have hln : done.length + 1 ≤ ss.length := by simpa using hlen
    clear hcan hlen
    have hd1 := (hd.then_ b1).alloc b1.size (.cells #[] 9)
    have ho1 := own_lit0 w1 w1.heap.size (Nat.le_refl _)
    have hfor : forthSt ss (done ++ [nm]) = if done.length + 1 = ss.length then 2 else 0 := by unfold forthSt; simp
    by_cases he : done.length + 1 = ss.length
    all_goals
      first | rw [if_pos he] at hfor | rw [if_neg he] at hfor
      have Hfor := Lib.hid hfor
      clear hfor
    · have q1 : ((done.length : Int) + 1 == (ss.length : Int)) = true := beq_iff_eq.2 (by omega)
      have q2 : (((done.length + 1 : Nat) : Int) == (ss.length : Int)) = true := beq_iff_eq.2 (by omega)
      have q3 : (done.length + 1 == ss.length) = true := beq_iff_eq.2 he
      clear he
      go_wp2_with (first
        | (at_builtin; (refine wpList_append_strs _ rfl (.tmp 15) (.tmp 17) rfl w1.heap.size (some ⟨w1.heap.size, 0, none⟩) 0 [] rfl ho1 D d _ done rfl hd1 done rfl (by omega) (by simp) ?_); intro A2 c2 w2 ho2 hb2 hg2; have hb12 := (((Below.refl _ w1).alloc (Nat.le_refl _) (.cells #[] 9)).trans hb2); have hz2 := hb12.size)
        | (at_builtin; (refine wpList_append_name _ rfl (.tmp 18) (.tmp 20) rfl w1.heap.size A2 c2 done rfl (ho2.alloc _) ⟨w2.heap.size, 0, none⟩ 1 nm rfl (cell_new1 _ _ _) hnm (by omega) (by simp; omega) ?_); intro A3 c3 w3 hap; have hb3 := (hb12.alloc hz2 _).trans hap.low; obtain ⟨hc3, hf3⟩ := bcell hb3; have ho3 := hap.own; have b3 := bthen b1 hb3; have hz3 : w.heap.size < w3.heap.size ∧ w.heap.size + 2 < w3.heap.size := ⟨by have := hb3.size; omega, by have := hb3.size; omega⟩; obtain ⟨hz30, hz32⟩ := hz3))
      have e := fun i => World.cell?_alloc_lt ((w3.setCell ⟨w.heap.size + 2, 0, none⟩ (.int .i64 2)).setCell ⟨w.heap.size + 2, 1, none⟩ (.slice A3 (done.length + 1) c3)) (.cells #[.int .i64 2, .slice A3 (done.length + 1) c3] 52) ⟨w.heap.size + 2, i, none⟩ (by simp; omega)
      refine bodyPost_ret (v := .tuple #[.agg #[.int .i64 2, .slice A3 (done.length + 1) c3], .bool true]) (by simp [results, Try.results102, go_sem, e, hc3, hc, hz]) rfl ?_
      rw [e0.out, e1.out, e2.out, Hfor.out]
      refine ⟨A3, c3, by simp, ?_, ((b3.setCell (by show w.heap.size ≤ w.heap.size + 2; omega) _).setCell (by show w.heap.size ≤ w.heap.size + 2; omega) _).alloc (by simp; omega) _⟩
      exact (((ho3.setLow (a := ⟨w.heap.size + 2, 0, none⟩) hz _).setLow (a := ⟨w.heap.size + 2, 1, none⟩) hz _).alloc _).base_ (by omega)
    · have q1 : ((done.length : Int) + 1 == (ss.length : Int)) = false := beq_eq_false_iff_ne.2 (by omega)
      have q2 : (((done.length + 1 : Nat) : Int) == (ss.length : Int)) = false := beq_eq_false_iff_ne.2 (by omega)
      have q3 : (done.length + 1 == ss.length) = false := beq_eq_false_iff_ne.2 he
      clear he
      go_wp2_with (first
        | (at_builtin; (refine wpList_append_strs _ rfl (.tmp 15) (.tmp 17) rfl w1.heap.size (some ⟨w1.heap.size, 0, none⟩) 0 [] rfl ho1 D d _ done rfl hd1 done rfl (by omega) (by simp) ?_); intro A2 c2 w2 ho2 hb2 hg2; have hb12 := (((Below.refl _ w1).alloc (Nat.le_refl _) (.cells #[] 9)).trans hb2); have hz2 := hb12.size)
        | (at_builtin; (refine wpList_append_name _ rfl (.tmp 18) (.tmp 20) rfl w1.heap.size A2 c2 done rfl (ho2.alloc _) ⟨w2.heap.size, 0, none⟩ 1 nm rfl (cell_new1 _ _ _) hnm (by omega) (by simp; omega) ?_); intro A3 c3 w3 hap; have hb3 := (hb12.alloc hz2 _).trans hap.low; obtain ⟨hc3, hf3⟩ := bcell hb3; have ho3 := hap.own; have b3 := bthen b1 hb3; have hz3 : w.heap.size < w3.heap.size ∧ w.heap.size + 2 < w3.heap.size := ⟨by have := hb3.size; omega, by have := hb3.size; omega⟩; obtain ⟨hz30, hz32⟩ := hz3))
      have e := fun i => World.cell?_alloc_lt ((w3.setCell ⟨w.heap.size + 2, 0, none⟩ (.int .i64 0)).setCell ⟨w.heap.size + 2, 1, none⟩ (.slice A3 (done.length + 1) c3)) (.cells #[.int .i64 0, .slice A3 (done.length + 1) c3] 52) ⟨w.heap.size + 2, i, none⟩ (by simp; omega)
      refine bodyPost_ret (v := .tuple #[.agg #[.int .i64 0, .slice A3 (done.length + 1) c3], .bool true]) (by simp [results, Try.results102, go_sem, e, hc3, hc, hz]) rfl ?_
      rw [e0.out, e1.out, e2.out, Hfor.out]
      refine ⟨A3, c3, by simp, ?_, ((b3.setCell (by show w.heap.size ≤ w.heap.size + 2; omega) _).setCell (by show w.heap.size ≤ w.heap.size + 2; omega) _).alloc (by simp; omega) _⟩
      exact (((ho3.setLow (a := ⟨w.heap.size + 2, 0, none⟩) hz _).setLow (a := ⟨w.heap.size + 2, 1, none⟩) hz _).alloc _).base_ (by omega)
end Go.Proofs.Ytfkjcldaclkkaaa
