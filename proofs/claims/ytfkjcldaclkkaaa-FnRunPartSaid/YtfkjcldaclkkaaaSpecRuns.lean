/- Contracts of the reference's functions on runs: l3Order, l3Left, RunValid. Condition: at most 2000000 steps. -/
import Derived.Test.YtfkjcldaclkkaaaRuns
import Derived.Test.YtfkjcldaclkkaaaRunOuts
import Derived.Test.YtfkjcldaclkkaaaFlowFns
import Derived.Deep.QuietTactic
import Derived.BigQuiet
namespace Go.Proofs.Ytfkjcldaclkkaaa
set_option linter.unusedVariables false
set_option maxRecDepth 100000
open Go.RowKit

theorem quietly {P : Program} {f : FuncId} {args : Array Value} {w : World} {n : Nat} {v u : Value}
    (h : Calls P f args (w.drewN n) fun e w' => e = .returned v ∧ w.drewN n = w') (e : v = u) : Calls P f args (w.drewN n) fun e w'' => e = .returned u ∧ ∃ m, w'' = w.drewN m :=
  h.mono fun _ _ ⟨he, hm⟩ => ⟨by rw [he, e], n, hm.symm⟩
theorem l1Have_n (A A' : Option Addr) (c c' n m : Nat) (xs ys : List ByteArray) (w : World) (B B' : Nat) (hn : Hid (xs.length = n)) (hm : Hid (ys.length = m)) (h : Strs w B A c xs) (h' : Strs w B' A' c' ys) :
    Calls Try.prog 97 #[.slice A n c, .slice A' m c'] w fun e w' => e = .returned (.bool (haveAll xs ys)) ∧ w = w' := by
  obtain rfl := hn.out
  obtain rfl := hm.out
  exact l1Have_any A A' c c' xs ys w B B' h h'
theorem bool_eq {a b : Bool} (h : a = b) : Value.bool a = .bool b := by rw [h]
theorem int_eq {a b : Int} (h : a = b) : Value.int .i64 a = .int .i64 b := by rw [h]

theorem place_first {xs : List ByteArray} {s : ByteArray} {k : Nat} (hk : k < xs.length) (h : xs[k] = s) : 0 ≤ place xs s ∧ place xs s ≤ k := by
  have hm : s ∈ xs := by rw [← h]; exact List.getElem_mem hk
  refine ⟨place_mem hm, ?_⟩
  rcases place_lt xs s with hneg | ⟨_, hl, _, hb⟩
  · omega
  · refine Classical.byContradiction fun hc => ?_
    exact hb k hk (by omega) h
theorem place_take {xs : List ByteArray} {s : ByteArray} {k : Nat} (h : s ∈ xs.take k) : place xs s < k := by
  obtain ⟨j, hj, e⟩ := List.mem_take_iff_getElem.1 h
  have := (place_first (xs := xs) (k := j) (by omega) e).2
  omega
theorem place_fresh {xs : List ByteArray} {k : Nat} (hk : k < xs.length) (h : xs[k] ∉ xs.take k) : place xs xs[k] = k := by
  refine place_at hk rfl fun j hj hlt e => h ?_
  exact List.mem_take_iff_getElem.2 ⟨j, by omega, e⟩

def goodAt (ss : List St) (done : List ByteArray) (i : Nat) : Prop := ∀ h : i < done.length, done[i] ∈ names ss ∧ done[i] ∉ done.take i ∧ haveAt ss (done.take i) done[i] = true
theorem specOk_bad {ss : List St} {done : List ByteArray} {i : Nat} (h : ¬ goodAt ss done i) : specOk ss done = false := by
  unfold specOk
  exact decide_eq_false fun hall => h (hall i)
theorem specOk_all {ss : List St} {done : List ByteArray} (h : ∀ i, i < done.length → goodAt ss done i) : specOk ss done = true := by
  unfold specOk
  exact decide_eq_true fun i hi => h i hi hi

set_option maxHeartbeats 4000000 in
theorem l3Order_any (A D : Option Addr) (c d : Nat) (ss : List St) (done : List ByteArray) (w : World) (B B' : Nat) (h : Sts w B A c ss) (hd : Strs w B' D d done) :
    Calls Try.prog 77 #[.slice A ss.length c, .slice D done.length d] w fun e w' => e = .returned (.bool (specOk ss done)) ∧ Below w.heap.size w w' := by
  have h1 := h.len
  have h2 := h.cap
  have h3 := hd.len
  have h4 := hd.cap
  go_enter Try.func77, Try.ntmps77
  go_wp2_with fail
  go_loopw [5] (fun i wr => ∃ k : Nat, k ≤ done.length ∧ i = .int .i64 k ∧ Below w.heap.size w wr ∧ ∀ j, j < k → goodAt ss done j) (fun i _ => done.length - (intOf i).toNat)
  case atStart => exact ⟨0, Nat.zero_le _, rfl, Below.refl _ _, fun j h => absurd h (by omega)⟩
  case round =>
    obtain ⟨k, hk, rfl, hb, hall0⟩ := hrel
    have hall := Lib.hid hall0
    clear hall0
    by_cases hlt : k < done.length
    · have hst := h.then_ hb
      have hdn := hd.then_ hb
      obtain ⟨ad', rfl, _, hcell⟩ := hdn.at_ hlt
      have hi0 : (0 : Int) ≤ k := by omega
      have hi1 : (k : Int) ≤ d := by omega
      have hi2 : (k : Int) < done.length := by omega
      obtain ⟨P, hP⟩ : ∃ P, P = place (names ss) done[k] := ⟨_, rfl⟩
      have KA := Lib.hid ((l2At_any A c ss done[k] wr _ hst).mono fun e w' ⟨h1, h2⟩ => (⟨h1.trans (ret_int hP.symm), h2⟩ : e = Ending.returned (.int .i64 P) ∧ wr = w'))
      by_cases hm : done[k] ∈ names ss
      · have hp0 : 0 ≤ P := by rw [hP]; exact place_mem hm
        by_cases hn : done[k] ∈ done.take k
        · have hbad := Lib.hid (specOk_bad (ss := ss) (done := done) (i := k) (fun hg => (hg hlt).2.1 hn))
          obtain ⟨Q, hQ⟩ : ∃ Q, Q = place done done[k] := ⟨_, rfl⟩
          have hq : Q < k := by rw [hQ]; exact place_take hn
          have hp1 : decide (P < 0) = false := decide_eq_false (by omega)
          have hq1 : decide (Q < (k : Int)) = true := decide_eq_true hq
          have HQ := Lib.hid hQ
          clear hm hn hP hQ
          go_wp2_with (go_at_call 56; (with_reducible refine KA.out.mono ?_); rintro e w' ⟨rfl, rfl⟩)
          go_quiet ((go_at_call 65; exact quietly (l1At_any _ _ _ _ _ _ (hdn.drewN _)) (int_eq HQ.out.symm)))
          go_wp2_with fail
          go_ret
          exact ⟨ret_bool hbad.out.symm, bdrewN hb _⟩
        · obtain ⟨s, hs, hname, hmem⟩ := place_get hm
          rw [← hP] at hs
          obtain ⟨m, rfl⟩ := Int.eq_ofNat_of_zero_le hp0
          have hs2 : ss[m]? = some s := hs
          obtain ⟨hms, hsm⟩ := List.getElem?_eq_some_iff.1 hs2
          have hsat : haveAt ss (done.take k) done[k] = haveAll (done.take k) ss[m].after := by
            unfold haveAt
            rw [← hP]
            rw [hs, ← hsm]
          obtain ⟨ad, A1, c1, rfl, _, hc0, hc1, hc2, hss⟩ := hst.at_ hms
          have hQ := Lib.hid (place_fresh hlt hn)
          have hp1 : decide ((m : Int) < 0) = false := decide_eq_false (by omega)
          have hq1 : decide ((k : Int) < (k : Int)) = false := decide_eq_false (by omega)
          have hm1 : (m : Int) < ss.length := by omega
          have hkl : Hid ((done.take k).length = k) := Lib.hid (by rw [List.length_take]; omega)
          have hdk := hdn.take k
          cases hv : haveAll (done.take k) ss[m].after
          · have hbad := Lib.hid (specOk_bad (ss := ss) (done := done) (i := k) (fun hg => by have := (hg hlt).2.2; rw [hsat, hv] at this; cases this))
            have HV := Lib.hid hv
            clear hm hn hP hs hs2 hsm hv hsat hmem hname
            go_wp2_with (go_at_call 56; (with_reducible refine KA.out.mono ?_); rintro e w' ⟨rfl, rfl⟩)
            go_quiet (first
              | (go_at_call 65; exact quietly (l1At_any _ _ _ _ _ _ (hdn.drewN _)) (int_eq hQ.out))
              | (go_at_call 97; exact quietly (l1Have_n _ _ _ _ _ _ _ _ _ _ _ hkl (Lib.hid rfl) (hdk.drewN _) (hss.drewN _)) (bool_eq HV.out)))
            go_wp2_with fail
            go_ret
            exact ⟨ret_bool hbad.out.symm, bdrewN hb _⟩
          · have hgood := Lib.hid (show goodAt ss done k from fun _ => ⟨hm, hn, by rw [hsat, hv]⟩)
            have HV := Lib.hid hv
            clear hm hn hP hs hs2 hsm hv hsat hmem hname
            go_wp2_with (go_at_call 56; (with_reducible refine KA.out.mono ?_); rintro e w' ⟨rfl, rfl⟩)
            go_quiet (first
              | (go_at_call 65; exact quietly (l1At_any _ _ _ _ _ _ (hdn.drewN _)) (int_eq hQ.out))
              | (go_at_call 97; exact quietly (l1Have_n _ _ _ _ _ _ _ _ _ _ _ hkl (Lib.hid rfl) (hdk.drewN _) (hss.drewN _)) (bool_eq HV.out)))
            go_wp2_with fail
            go_roundw
            case rel => exact ⟨k + 1, by omega, by go_num, bdrewN hb _, fun j h => by
              by_cases e : j = k
              · subst e; exact hgood.out
              · exact hall.out j (by omega)⟩
            case measure => simp [intOf]; omega
      · have hbad := Lib.hid (specOk_bad (ss := ss) (done := done) (i := k) (fun hg => hm (hg hlt).1))
        have hp0 : P < 0 := by rw [hP, place_notMem hm]; omega
        have hp1 : decide (P < 0) = true := decide_eq_true hp0
        clear hm hP
        go_wp2_with (go_at_call 56; (with_reducible refine KA.out.mono ?_); rintro e w' ⟨rfl, rfl⟩)
        go_quiet (fail)
        go_wp2_with fail
        go_ret
        exact ⟨ret_bool hbad.out.symm, bdrewN hb _⟩
    · have hgood := Lib.hid (specOk_all (ss := ss) (done := done) (fun i hi => hall.out i (by omega)))
      go_wp2_with fail
      go_ret
      exact ⟨ret_bool hgood.out.symm, hb⟩

/-- How many steps stay if all are undone from the end. -/
def leftN (ss : List St) (done : List ByteArray) : Nat := (done.reverse.dropWhile fun n => undoAt ss n).length
theorem leftN_nil (ss : List St) : leftN ss [] = 0 := rfl
theorem leftN_snoc (ss : List St) (done : List ByteArray) (n : ByteArray) : leftN ss (done ++ [n]) = if undoAt ss n then leftN ss done else done.length + 1 := by
  unfold leftN
  rw [List.reverse_append]
  simp only [List.reverse_cons, List.reverse_nil, List.nil_append, List.cons_append, List.dropWhile_cons]
  split <;> simp
theorem leftN_le (ss : List St) (done : List ByteArray) : leftN ss done ≤ done.length := by
  unfold leftN
  have := (List.dropWhile_sublist (fun n => undoAt ss n) (l := done.reverse)).length_le
  simpa using this
theorem leftN_back (ss : List St) (done : List ByteArray) : (leftN ss done < done.length ∧ backSt ss done = 1) ∨ (leftN ss done = done.length ∧ backSt ss done = 3) := by
  rcases List.eq_nil_or_concat done with rfl | ⟨init, n, rfl⟩
  · exact .inr ⟨rfl, rfl⟩
  · rw [List.concat_eq_append, leftN_snoc]
    have hb : backSt ss (init ++ [n]) = if undoAt ss n then 1 else 3 := by unfold backSt; simp
    rw [hb]
    have := leftN_le ss init
    by_cases hu : undoAt ss n = true
    · left; simp [hu]; omega
    · right; simp [hu]
theorem take_last {done : List ByteArray} {k : Nat} (hk : k < done.length) : done.take (k + 1) = done.take k ++ [done[k]] := List.take_succ_eq_append_getElem hk

set_option maxHeartbeats 4000000 in
theorem l3Left_any (A D : Option Addr) (c d : Nat) (ss : List St) (done : List ByteArray) (w : World) (B B' : Nat) (h : Sts w B A c ss) (hd : Strs w B' D d done) (hn : Hid (∀ n ∈ done, n ∈ names ss)) :
    Calls Try.prog 78 #[.slice A ss.length c, .slice D done.length d] w fun e w' => e = .returned (.int .i64 (leftN ss done : Nat)) ∧ w = w' := by
  have h1 := h.len
  have h2 := h.cap
  have h3 := hd.len
  have h4 := hd.cap
  go_enter Try.func78, Try.ntmps78
  go_wp2_with fail
  go_loop [5] (fun i => ∃ k : Nat, k ≤ done.length ∧ i = .int .i64 k ∧ leftN ss (done.take k) = leftN ss done) (fun i => (intOf i).toNat)
  case atStart => exact ⟨done.length, Nat.le_refl _, rfl, by rw [List.take_length]⟩
  case round =>
    obtain ⟨k, hk, rfl, he0⟩ := hrel
    have he := Lib.hid he0
    clear he0
    rcases Nat.eq_zero_or_pos k with rfl | hk0
    · have hf := Lib.hid (show leftN ss done = 0 from he.out.symm.trans (leftN_nil ss))
      have hd0 : decide ((0 : Int) < 0) = false := by simp
      go_wp2_with fail
      go_ret
      exact ⟨ret_int (by rw [hf.out]; rfl), rfl⟩
    · obtain ⟨j, rfl⟩ : ∃ j, k = j + 1 := ⟨k - 1, by omega⟩
      have hj : j < done.length := by omega
      obtain ⟨ad', rfl, _, hcell⟩ := hd.at_ hj
      have hm : done[j] ∈ names ss := hn.out _ (List.getElem_mem _)
      obtain ⟨s, hs, hname, hmem⟩ := place_get hm
      obtain ⟨P, hP⟩ : ∃ P, P = place (names ss) done[j] := ⟨_, rfl⟩
      have hp0 : 0 ≤ P := by rw [hP]; exact place_mem hm
      have hu0 : undoAt ss done[j] = s.undo := by unfold undoAt; rw [hs]
      rw [← hP] at hs
      obtain ⟨m, rfl⟩ := Int.eq_ofNat_of_zero_le hp0
      have hs2 : ss[m]? = some s := hs
      obtain ⟨hms, hsm⟩ := List.getElem?_eq_some_iff.1 hs2
      have KA := Lib.hid ((l2At_any A c ss done[j] w _ h).mono fun e w' ⟨h1, h2⟩ => (⟨h1.trans (ret_int hP.symm), h2⟩ : e = Ending.returned (.int .i64 (m : Int)) ∧ w = w'))
      obtain ⟨ad, A1, c1, rfl, _, hc0, hc1, hc2, hss⟩ := h.at_ hms
      rw [hsm] at hc2
      have hm1 : (m : Int) < ss.length := by omega
      have hj5 : (((j + 1 : Nat) : Int) - 1) = (j : Int) := by omega
      have hj6 : ((j : Int) + 1 - 1) = (j : Int) := by omega
      have hi2 : (j : Int) < done.length := by omega
      have hsn := leftN_snoc ss (done.take j) done[j]
      rw [← take_last hj, hu0, he.out] at hsn
      have Hsn := Lib.hid hsn
      clear he hm hname hmem hP hu0 hs hs2 hsm hsn
      cases hu : s.undo
      · rw [hu] at hc2 Hsn
        have hf := Lib.hid (show leftN ss done = j + 1 by have := Hsn.out; rw [if_neg (by decide)] at this; rw [this, List.length_take]; omega)
        go_wp2_with (go_at_call 56; (with_reducible refine KA.out.mono ?_); rintro e w' ⟨rfl, rfl⟩)
        go_ret
        exact ⟨ret_int (by rw [hf.out]; omega), rfl⟩
      · rw [hu] at hc2 Hsn
        have hf := Lib.hid (show leftN ss (done.take j) = leftN ss done by have := Hsn.out; rw [if_pos rfl] at this; exact this.symm)
        go_wp2_with (go_at_call 56; (with_reducible refine KA.out.mono ?_); rintro e w' ⟨rfl, rfl⟩)
        go_round
        case rel => exact ⟨j, by omega, by go_num, hf.out⟩
        case measure => simp [intOf]

theorem runOk_zero {ver : Int} {ss : List St} {done : List ByteArray} (h1 : flowOk ver ss = true) (h2 : doneOk ss done = true) : runOk ver ss 0 done = decide (done.length < ss.length) := by
  rw [runOk_st h1 h2, stOk_zero]
  have := doneOk_len h2
  by_cases h : done.length = ss.length
  · simp [h]
  · simp [h]; omega
theorem runOk_two {ver : Int} {ss : List St} {done : List ByteArray} (h1 : flowOk ver ss = true) (h2 : doneOk ss done = true) : runOk ver ss 2 done = decide (done.length = ss.length) := by
  rw [runOk_st h1 h2, stOk_two]
theorem runOk_one {ver : Int} {ss : List St} {done : List ByteArray} (h1 : flowOk ver ss = true) (h2 : doneOk ss done = true) : runOk ver ss 1 done = (decide (done.length < ss.length) && decide (leftN ss done < done.length)) := by
  rw [runOk_st h1 h2, stOk_one]
  congr 1
  rcases leftN_back ss done with ⟨a, b⟩ | ⟨a, b⟩
  · simp [a, b]
  · simp [a, b]
theorem runOk_three {ver : Int} {ss : List St} {done : List ByteArray} (h1 : flowOk ver ss = true) (h2 : doneOk ss done = true) : runOk ver ss 3 done = (decide (done.length < ss.length) && decide (leftN ss done = done.length)) := by
  rw [runOk_st h1 h2, stOk_three]
  congr 1
  rcases leftN_back ss done with ⟨a, b⟩ | ⟨a, b⟩
  · have : ¬ leftN ss done = done.length := by omega
    simp [this, b]
  · simp [a, b]

set_option maxHeartbeats 4000000 in
theorem sRunValid_any (ver st : Int) (A D : Option Addr) (c d : Nat) (ss : List St) (done : List ByteArray) (w : World) (B B' : Nat) (h : Sts w B A c ss) (hd : Strs w B' D d done) (hl : ss.length ≤ 2000000) :
    Calls Try.prog 39 #[flowV ver A ss.length c, runV st D done.length d] w fun e w' => e = .returned (.bool (runOk ver ss st done)) ∧ Below w.heap.size w w' := by
  have h1 := h.len
  have h2 := h.cap
  have h3 := hd.len
  have h4 := hd.cap
  have b0 : Below w.heap.size w ((w.alloc (.cells #[.int .i64 ver, .slice A ss.length c] 25)).alloc (.cells #[.int .i64 st, .slice D done.length d] 52)) := ((Below.refl _ _).alloc (Nat.le_refl _) _).alloc (by simp) _
  have hbf := (Cell2.new w (.int .i64 ver) (.slice A ss.length c) 25).alloc (.cells #[.int .i64 st, .slice D done.length d] 52)
  have hbr : Cell2 ((w.alloc (.cells #[.int .i64 ver, .slice A ss.length c] 25)).alloc (.cells #[.int .i64 st, .slice D done.length d] 52)) (w.heap.size + 1) (.int .i64 st) (.slice D done.length d) := by
    have := Cell2.new (w.alloc (.cells #[.int .i64 ver, .slice A ss.length c] 25)) (.int .i64 st) (.slice D done.length d) 52
    simpa using this
  go_enter Try.func39, Try.ntmps39
  go_wp2_with fail
  (with_reducible refine (sFlowValid_any ver A c ss _ _ (h.then_ b0) hl).mono ?_)
  rintro e w1 ⟨rfl, hb1⟩
  have b1 := bthen b0 hb1
  have qf := hbf.then_ hb1
  have qr := hbr.then_ hb1
  clear hbf hbr b0
  obtain ⟨f0, f1⟩ := id qf
  obtain ⟨r0, r1⟩ := id qr
  cases hok : flowOk ver ss
  · have hf := Lib.hid (runOk_noFlow (st := st) (done := done) hok)
    clear hok
    go_wp2_with fail
    go_ret
    exact ⟨ret_bool hf.out.symm, b1⟩
  · have hasc := (flowOk_iff.1 hok).2.2.2.2.1
    have hsp := specOk_eq (done := done) hasc
    cases hdone : doneOk ss done
    · rw [hdone] at hsp
      have hf := Lib.hid (runOk_noDone (ver := ver) (st := st) hdone)
      have K := Lib.hid ((l3Order_any A D c d ss done w1 _ _ (h.then_ b1) (hd.then_ b1)).mono fun e w' ⟨h1, h2⟩ => (⟨h1.trans (ret_bool hsp), h2⟩ : e = Ending.returned (.bool false) ∧ Below w1.heap.size w1 w'))
      clear hok hdone hsp hasc
      go_wp2_with fail
      (with_reducible refine K.out.mono ?_)
      rintro e w2 ⟨rfl, hb2⟩
      go_wp2_with fail
      go_ret
      exact ⟨ret_bool hf.out.symm, bthen b1 hb2⟩
    · rw [hdone] at hsp
      have K := Lib.hid ((l3Order_any A D c d ss done w1 _ _ (h.then_ b1) (hd.then_ b1)).mono fun e w' ⟨h1, h2⟩ => (⟨h1.trans (ret_bool hsp), h2⟩ : e = Ending.returned (.bool true) ∧ Below w1.heap.size w1 w'))
      have R0 := Lib.hid (runOk_zero hok hdone)
      have R1 := Lib.hid (runOk_one hok hdone)
      have R2 := Lib.hid (runOk_two hok hdone)
      have R3 := Lib.hid (runOk_three hok hdone)
      have RX := Lib.hid (runOk_st (st := st) hok hdone)
      have hsub := Lib.hid (doneOk_sub hdone)
      have hlen := doneOk_len hdone
      clear hok hdone hsp hasc
      go_wp2_with fail
      (with_reducible refine K.out.mono ?_)
      rintro e w2 ⟨rfl, hb2⟩
      have b2 := bthen b1 hb2
      have qf2 := qf.then_ hb2
      have qr2 := qr.then_ hb2
      clear f0 f1 r0 r1
      obtain ⟨f0, f1⟩ := id qf2
      obtain ⟨r0, r1⟩ := id qr2
      have hst := h.then_ b2
      have hdn := hd.then_ b2
      clear K
      by_cases s0 : st = 0
      · subst s0
        go_wp2_with fail
        go_ret
        exact ⟨ret_bool (by rw [R0.out]), b2⟩
      · by_cases s2 : st = 2
        · subst s2
          have hq : ((done.length : Int) == (ss.length : Int)) = decide (done.length = ss.length) := by
            rw [← dec_beq]; rw [decide_eq_decide]; omega
          have Hq := Lib.hid hq
          clear hq
          go_wp2_with fail
          go_ret
          refine ⟨ret_bool ?_, b2⟩
          rw [R2.out]
          first | exact Hq.out | rfl | (simp)
        · have n0 : (st == 0) = false := beq_eq_false_iff_ne.2 s0
          have n2 : (st == 2) = false := beq_eq_false_iff_ne.2 s2
          by_cases s13 : st = 1 ∨ st = 3
          · by_cases hlt2 : done.length < ss.length
            · have hg1 : decide (done.length < ss.length) = true := decide_eq_true hlt2
              have hg2 : decide ((done.length : Int) < (ss.length : Int)) = true := decide_eq_true (by omega)
              rw [hg1, Bool.true_and] at R1 R3
              have hback := leftN_back ss done
              obtain ⟨L, hL⟩ : ∃ L, L = leftN ss done := ⟨_, rfl⟩
              have hLle := leftN_le ss done
              rw [← hL] at R1 R3 hback hLle
              have HL := Lib.hid hL
              clear hL s0 s2
              rcases s13 with rfl | rfl
              all_goals
                rcases hback with ⟨a, -⟩ | ⟨a, -⟩
              · have a1 : decide (L < done.length) = true := decide_eq_true a
                have a2 : decide ((L : Int) < (done.length : Int)) = true := decide_eq_true (by omega)
                rw [a1] at R1
                go_wp2_with fail
                go_quiet ((go_at_call 78; exact quietly (l3Left_any _ _ _ _ _ _ _ _ _ (hst.drewN _) (hdn.drewN _) hsub) (int_eq (congrArg (fun n : Nat => (n : Int)) HL.out.symm))))
                go_wp2_with fail
                go_ret
                exact ⟨ret_bool R1.out.symm, bdrewN b2 _⟩
              · have a1 : decide (L < done.length) = false := decide_eq_false (by omega)
                have a2 : decide ((L : Int) < (done.length : Int)) = false := decide_eq_false (by omega)
                rw [a1] at R1
                have HA := Lib.hid a
                clear a
                go_wp2_with fail
                go_quiet ((go_at_call 78; exact quietly (l3Left_any _ _ _ _ _ _ _ _ _ (hst.drewN _) (hdn.drewN _) hsub) (int_eq (congrArg (fun n : Nat => (n : Int)) HL.out.symm))))
                go_wp2_with fail
                go_ret
                exact ⟨ret_bool R1.out.symm, bdrewN b2 _⟩
              · have a1 : decide (L = done.length) = false := decide_eq_false (by omega)
                have a2 : ((L : Int) == (done.length : Int)) = false := beq_eq_false_iff_ne.2 (by omega)
                have a3 : (L == done.length) = false := beq_eq_false_iff_ne.2 (by omega)
                rw [a1] at R3
                go_wp2_with fail
                go_quiet ((go_at_call 78; exact quietly (l3Left_any _ _ _ _ _ _ _ _ _ (hst.drewN _) (hdn.drewN _) hsub) (int_eq (congrArg (fun n : Nat => (n : Int)) HL.out.symm))))
                go_wp2_with fail
                go_ret
                exact ⟨ret_bool R3.out.symm, bdrewN b2 _⟩
              · have a1 : decide (L = done.length) = true := decide_eq_true a
                have a2 : ((L : Int) == (done.length : Int)) = true := beq_iff_eq.2 (by omega)
                have a3 : (L == done.length) = true := beq_iff_eq.2 a
                rw [a1] at R3
                have HA := Lib.hid a
                clear a
                go_wp2_with fail
                go_quiet ((go_at_call 78; exact quietly (l3Left_any _ _ _ _ _ _ _ _ _ (hst.drewN _) (hdn.drewN _) hsub) (int_eq (congrArg (fun n : Nat => (n : Int)) HL.out.symm))))
                go_wp2_with fail
                go_ret
                exact ⟨ret_bool R3.out.symm, bdrewN b2 _⟩
            · have hg1 : decide (done.length < ss.length) = false := decide_eq_false hlt2
              have hg2 : decide ((done.length : Int) < (ss.length : Int)) = false := decide_eq_false (by omega)
              rw [hg1, Bool.false_and] at R1 R3
              clear s0 s2
              rcases s13 with rfl | rfl
              · go_wp2_with fail
                go_quiet (fail)
                go_wp2_with fail
                go_ret
                exact ⟨ret_bool R1.out.symm, bdrewN b2 _⟩
              · go_wp2_with fail
                go_quiet (fail)
                go_wp2_with fail
                go_ret
                exact ⟨ret_bool R3.out.symm, bdrewN b2 _⟩
          · have n1 : (st == 1) = false := beq_eq_false_iff_ne.2 (fun e => s13 (.inl e))
            have n3 : (st == 3) = false := beq_eq_false_iff_ne.2 (fun e => s13 (.inr e))
            have Hfin := Lib.hid (RX.out.trans (stOk_other ⟨s0, fun e => s13 (.inl e), s2, fun e => s13 (.inr e)⟩))
            clear s0 s2 s13
            go_wp2_with fail
            go_ret
            exact ⟨ret_bool Hfin.out.symm, b2⟩
end Go.Proofs.Ytfkjcldaclkkaaa
