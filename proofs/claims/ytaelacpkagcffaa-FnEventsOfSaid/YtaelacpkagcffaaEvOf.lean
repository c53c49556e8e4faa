/- Contracts of EventsOf: program and reference. Condition: at most 2000000 steps. -/
import Derived.Test.YtaelacpkagcffaaEvPlain
import Derived.Test.YtaelacpkagcffaaEvFns
import Derived.Test.YtaelacpkagcffaaAppendEv
namespace Go.Proofs.Ytaelacpkagcffaa
set_option linter.unusedVariables false
set_option maxRecDepth 100000
open Go.RowKit

/-- Events and a word are handed back. -/
def RetEvsB (es : List Ev) (ok : Bool) (w : World) (e : Ending) (w' : World) : Prop :=
  ∃ A c, e = .returned (.tuple #[.slice A es.length c, .bool ok]) ∧ OwnEvs w' w.heap.size A c es ∧ Below w.heap.size w w'
theorem ownE_lit0 (w : World) (base : Nat) (hb : base ≤ w.heap.size) : OwnEvs (w.alloc (.cells #[] 41)) base (some ⟨w.heap.size, 0, none⟩) 0 [] :=
  ⟨⟨rfl, .inr ⟨w.heap.size, 0, #[], rfl, hb, heap_alloc_new w _, Nat.le_refl _, by simp [maxLen], rfl, rfl⟩⟩, by simp⟩
def dids (done : List ByteArray) (k : Nat) : List Ev := (done.take k).map didEv
theorem dids_len {done : List ByteArray} {k : Nat} (h : k ≤ done.length) : (dids done k).length = k := by unfold dids; simp; omega
theorem dids_succ {done : List ByteArray} {k : Nat} (h : k < done.length) : dids done (k + 1) = dids done k ++ [⟨1, done[k]⟩] := by
  unfold dids
  rw [List.take_succ_eq_append_getElem h, List.map_append]; rfl
theorem dids_all (done : List ByteArray) : dids done done.length = done.map didEv := by unfold dids; rw [List.take_length]

set_option maxHeartbeats 8000000 in
theorem iEventsOf_any (ver st : Int) (SA D : Option Addr) (sc d : Nat) (ss : List St) (done : List ByteArray) (w : World) (B B' : Nat) (h : Sts w B SA sc ss) (hd : Strs w B' D d done) (hl : ss.length ≤ 2000000) :
    Calls Try.prog 33 #[flowV ver SA ss.length sc, runV st D done.length d] w (RetEvsB (evOf ver ss st done) (runOk ver ss st done) w) := by
  have hdl := hd.len
  have hdc := hd.cap
  have b0 : Below w.heap.size w ((w.alloc (.cells #[.int .i64 ver, .slice SA ss.length sc] 38)).alloc (.cells #[.int .i64 st, .slice D done.length d] 33)) := ((Below.refl _ _).alloc (Nat.le_refl _) _).alloc (by simp) _
  have y1 : Cell2 ((w.alloc (.cells #[.int .i64 ver, .slice SA ss.length sc] 38)).alloc (.cells #[.int .i64 st, .slice D done.length d] 33)) w.heap.size (.int .i64 ver) (.slice SA ss.length sc) := (Cell2.new w _ _ _).alloc _
  have y2 : Cell2 ((w.alloc (.cells #[.int .i64 ver, .slice SA ss.length sc] 38)).alloc (.cells #[.int .i64 st, .slice D done.length d] 33)) (w.heap.size + 1) (.int .i64 st) (.slice D done.length d) := by have := Cell2.new (w.alloc (.cells #[.int .i64 ver, .slice SA ss.length sc] 38)) (.int .i64 st) (.slice D done.length d) 33; simpa using this
  go_enter Try.func33, Try.ntmps33
  go_wp2_with fail
  (with_reducible refine (iRunValid_any ver st SA D sc d ss done _ _ _ (h.then_ b0) (hd.then_ b0) hl).mono ?_)
  rintro e w1 ⟨rfl, hb1⟩
  have b1 := bthen b0 hb1
  have hz1 : w.heap.size + 2 ≤ w1.heap.size := by have := hb1.size; simp at this; omega
  have w0z : ((w.alloc (.cells #[.int .i64 ver, .slice SA ss.length sc] 38)).alloc (.cells #[.int .i64 st, .slice D done.length d] 33)).heap.size = w.heap.size + 2 := by simp
  have hbz : Below (w.heap.size + 2) ((w.alloc (.cells #[.int .i64 ver, .slice SA ss.length sc] 38)).alloc (.cells #[.int .i64 st, .slice D done.length d] 33)) w1 := hb1.mono (by rw [w0z]; omega)
  clear b0
  obtain ⟨f0, f1⟩ := y1.then_ hb1
  obtain ⟨r0, r1⟩ := y2.then_ hb1
  cases hok : runOk ver ss st done
  · have E0 := Lib.hid hok
    have E1 := Lib.hid (evOf_no hok)
    clear hok
    go_wp2_with fail
    refine bodyPost_ret (v := .tuple #[.slice none 0 0, .bool false]) (by simp [results, Try.results33, go_sem]) rfl ?_
    rw [E1.out, E0.out]
    exact ⟨none, 0, rfl, OwnEvs.nil_ _ _, b1⟩
  have hdl8 : done.length ≤ 8 := Nat.le_trans (run_len hok) (run_ss hok)
  have E1 : Hid (evOf ver ss st done = dids done done.length ++ tailEv ss st done) := Lib.hid (by rw [evOf_yes hok, dids_all])
  have hfo := (runOk_iff.1 hok).1
  have HT := Lib.hid hok
  have oz : OwnEvs w1 (w.heap.size + 2) none 0 (dids done 0) := OwnEvs.nil_ _ _
  have z1 := y1.then_ hb1
  have z2 := y2.then_ hb1
  clear hok hb1 y1 y2 hbz w0z
  go_wp2_with fail
  go_loopw [6, 16] (fun out i wr => ∃ (k : Nat) (A' : Option Addr) (c' : Nat), k ≤ done.length ∧ i = .int .i64 k ∧ out = .slice A' (dids done k).length c' ∧ OwnEvs wr (w.heap.size + 2) A' c' (dids done k) ∧ Below (w.heap.size + 2) w1 wr) (fun _ i _ => done.length - (intOf i).toNat)
  case atStart => exact ⟨0, none, 0, Nat.zero_le _, rfl, rfl, oz, Below.refl _ _⟩
  case round =>
    clear oz f0 f1 r0 r1
    obtain ⟨k, A', c', hk, rfl, rfl, ho, hb⟩ := hrel
    have hbw := b1.trans (hb.mono (by omega))
    have hsz := hb.size
    have f0 := (hb.cell (p := ⟨w.heap.size, 0, none⟩) (by show w.heap.size < w.heap.size + 2; omega)).trans z1.c0
    have f1 := (hb.cell (p := ⟨w.heap.size, 1, none⟩) (by show w.heap.size < w.heap.size + 2; omega)).trans z1.c1
    have r0 := (hb.cell (p := ⟨w.heap.size + 1, 0, none⟩) (by show w.heap.size + 1 < w.heap.size + 2; omega)).trans z2.c0
    have r1 := (hb.cell (p := ⟨w.heap.size + 1, 1, none⟩) (by show w.heap.size + 1 < w.heap.size + 2; omega)).trans z2.c1
    have hst := h.then_ hbw
    have hdn := hd.then_ hbw
    by_cases hlt : k < done.length
    · obtain ⟨ad, rfl, had, hc0⟩ := hdn.at_ hlt
      have hns := hd.lens k hlt
      have hds := dids_succ hlt
      have hdk := dids_len (Nat.le_of_lt hlt)
      have ho2 := ho.alloc (.cells #[.int .i64 1, .string done[k]] 41)
      have hq := Cell2.new wr (.int .i64 1) (.string done[k]) 41
      have hi0 : (0 : Int) ≤ k := by omega
      have hi1 : (k : Int) < done.length := by omega
      go_wp2_with (at_builtin; (refine wpList_append_event _ rfl (.tmp 20) (.tmp 23) rfl (w.heap.size + 2) A' c' _ rfl ho2 ⟨wr.heap.size, 0, none⟩ 1 ⟨1, done[k]⟩ rfl hq.c0 hq.c1 hns (by omega) (by simp; omega) ?_); intro A3 c3 w3 hap)
      go_roundw
      case rel =>
        obtain ⟨hown, hlow, hgr, _⟩ := hap
        rw [← hds] at hown
        refine ⟨k + 1, A3, c3, by omega, by go_num, ?_, hown, (hb.alloc (by omega) _).trans hlow⟩
        rw [hds]; simp; omega
      case measure => simp [intOf]; omega
    · have hke : k = done.length := by omega
      subst hke
      clear hlt hk
      by_cases hs : st = 1 ∨ st = 3
      · obtain ⟨n, r, hr⟩ := back_ready HT.out hs
        have ht := tailEv_yes hs hr
        obtain ⟨xs, hxs⟩ : ∃ xs, xs = n :: r := ⟨_, rfl⟩
        have hx0 : 0 < xs.length := by rw [hxs]; simp
        have hxn : xs[0] = n := by simp [hxs]
        have KR : Hid (Calls Try.prog 67 #[flowV ver SA ss.length sc, .slice D done.length d] wr (RetStrs xs wr)) := Lib.hid (by
          have hh := ready_any ver SA D sc d ss done wr _ _ hst hdn hl
          rw [hr] at hh
          rw [hxs]
          exact hh)
        clear hxs
        have ET := Lib.hid (E1.out.trans (by rw [ht]))
        have hob := ho
        have hml : (dids done done.length).length ≤ 8 := by rw [dids_len (Nat.le_refl _)]; exact hdl8
        clear hr ht E1
        rcases two_ways (a := 1) (b := 3) (by decide) hs with ⟨e1, e3⟩ | ⟨e1, e3⟩
        all_goals
          clear hs
          go_wp2_with fail
          (with_reducible refine KR.out.mono ?_)
          rintro e w2 ⟨A5, c5, rfl, ho5, hb5⟩
          obtain ⟨a5, rfl, ha5, hc5⟩ := ho5.strs.at_ (k := 0) hx0
          have hn5 := ho5.strs.lens 0 hx0
          rw [hxn] at hc5 hn5
          have hl5 := ho5.strs.len
          have hc5' := ho5.strs.cap
          have hlp : (0 : Int) < xs.length := by omega
          have had0 : a5.add 0 = a5 := by unfold Addr.add; simp
          rw [had0] at hc5
          have ho6 := (ho.below hb5).alloc (.cells #[.int .i64 2, .string n] 41)
          have hq := Cell2.new w2 (.int .i64 2) (.string n) 41
          have bw2 := bthen hbw hb5
          have hz5 := hb5.size
          go_wp2_with (at_builtin; (refine wpList_append_event _ rfl (.tmp 34) (.tmp 42) rfl (w.heap.size + 2) A' c' _ rfl ho6 ⟨w2.heap.size, 0, none⟩ 1 ⟨2, n⟩ rfl hq.c0 hq.c1 hn5 (by omega) (by simp; omega) ?_); intro A7 c7 w7 hap)
          obtain ⟨hown, hlow, hgr, _⟩ := hap
          refine bodyPost_ret (v := .tuple #[.slice A7 ((dids done done.length).length + 1) c7, .bool true]) (by simp [results, Try.results33, go_sem]) rfl ?_
          rw [ET.out, HT.out]
          refine ⟨A7, c7, by simp, hown.base_ (by omega), (bw2.alloc bw2.size _).trans (hlow.mono (by omega))⟩
      · have ht := tailEv_no (ss := ss) (done := done) (st := st) (by omega) (by omega)
        have ET := Lib.hid (E1.out.trans (by rw [ht, List.append_nil]))
        have e1 : (st == 1) = false := beq_eq_false_iff_ne.2 (by omega)
        have e3 : (st == 3) = false := beq_eq_false_iff_ne.2 (by omega)
        clear hs ht E1
        go_wp2_with fail
        refine bodyPost_ret (v := .tuple #[.slice A' (dids done done.length).length c', .bool true]) (by simp [results, Try.results33, go_sem]) rfl ?_
        rw [ET.out, HT.out]
        exact ⟨A', c', rfl, ho.base_ (by omega), hbw⟩

set_option maxHeartbeats 8000000 in
theorem sEventsOf_any (ver st : Int) (SA D : Option Addr) (sc d : Nat) (ss : List St) (done : List ByteArray) (w : World) (B B' : Nat) (h : Sts w B SA sc ss) (hd : Strs w B' D d done) (hl : ss.length ≤ 2000000) :
    Calls Try.prog 34 #[flowV ver SA ss.length sc, runV st D done.length d] w (RetEvsB (evOf ver ss st done) (runOk ver ss st done) w) := by
  have hdl := hd.len
  have hdc := hd.cap
  have b0 : Below w.heap.size w (((w.alloc (.cells #[.int .i64 ver, .slice SA ss.length sc] 38)).alloc (.cells #[.int .i64 st, .slice D done.length d] 33)).alloc (.cells #[] 41)) := (((Below.refl _ _).alloc (Nat.le_refl _) _).alloc (by simp) _).alloc (by simp; omega) _
  have y1 : Cell2 (((w.alloc (.cells #[.int .i64 ver, .slice SA ss.length sc] 38)).alloc (.cells #[.int .i64 st, .slice D done.length d] 33)).alloc (.cells #[] 41)) w.heap.size (.int .i64 ver) (.slice SA ss.length sc) := ((Cell2.new w _ _ _).alloc _).alloc _
  have y2 : Cell2 (((w.alloc (.cells #[.int .i64 ver, .slice SA ss.length sc] 38)).alloc (.cells #[.int .i64 st, .slice D done.length d] 33)).alloc (.cells #[] 41)) (w.heap.size + 1) (.int .i64 st) (.slice D done.length d) := by have := (Cell2.new (w.alloc (.cells #[.int .i64 ver, .slice SA ss.length sc] 38)) (.int .i64 st) (.slice D done.length d) 33).alloc (.cells #[] 41); simpa using this
  have HL : Hid (OwnEvs (((w.alloc (.cells #[.int .i64 ver, .slice SA ss.length sc] 38)).alloc (.cells #[.int .i64 st, .slice D done.length d] 33)).alloc (.cells #[] 41)) (w.heap.size + 2) (some ⟨w.heap.size + 2, 0, none⟩) 0 []) := Lib.hid (by have := ownE_lit0 ((w.alloc (.cells #[.int .i64 ver, .slice SA ss.length sc] 38)).alloc (.cells #[.int .i64 st, .slice D done.length d] 33)) (w.heap.size + 2) (by simp); simpa using this)
  go_enter Try.func34, Try.ntmps34
  go_wp2_with fail
  (with_reducible refine (sRunValid_any ver st SA D sc d ss done _ _ _ (h.then_ b0) (hd.then_ b0) hl).mono ?_)
  rintro e w1 ⟨rfl, hb1⟩
  have b1 := bthen b0 hb1
  have hz1 : w.heap.size + 2 ≤ w1.heap.size := by have := hb1.size; simp at this; omega
  have w0z : (((w.alloc (.cells #[.int .i64 ver, .slice SA ss.length sc] 38)).alloc (.cells #[.int .i64 st, .slice D done.length d] 33)).alloc (.cells #[] 41)).heap.size = w.heap.size + 3 := by simp
  have hbz : Below (w.heap.size + 2) (((w.alloc (.cells #[.int .i64 ver, .slice SA ss.length sc] 38)).alloc (.cells #[.int .i64 st, .slice D done.length d] 33)).alloc (.cells #[] 41)) w1 := hb1.mono (by rw [w0z]; omega)
  clear b0
  obtain ⟨f0, f1⟩ := y1.then_ hb1
  obtain ⟨r0, r1⟩ := y2.then_ hb1
  cases hok : runOk ver ss st done
  · have E0 := Lib.hid hok
    have E1 := Lib.hid (evOf_no hok)
    clear hok
    go_wp2_with fail
    refine bodyPost_ret (v := .tuple #[.slice (some ⟨w.heap.size + 2, 0, none⟩) 0 0, .bool false]) (by simp [results, Try.results34, go_sem]) rfl ?_
    rw [E1.out, E0.out]
    exact ⟨some ⟨w.heap.size + 2, 0, none⟩, 0, rfl, ((HL.out.below hb1).base_ (by omega)), b1⟩
  have hdl8 : done.length ≤ 8 := Nat.le_trans (run_len hok) (run_ss hok)
  have E1 : Hid (evOf ver ss st done = dids done done.length ++ tailEv ss st done) := Lib.hid (by rw [evOf_yes hok, dids_all])
  have hfo := (runOk_iff.1 hok).1
  have HT := Lib.hid hok
  have oz : OwnEvs w1 (w.heap.size + 2) (some ⟨w.heap.size + 2, 0, none⟩) 0 (dids done 0) := (HL.out.below hb1)
  have z1 := y1.then_ hb1
  have z2 := y2.then_ hb1
  clear hok hb1 y1 y2 hbz w0z
  go_wp2_with fail
  go_loopw [6, 7] (fun out i wr => ∃ (k : Nat) (A' : Option Addr) (c' : Nat), k ≤ done.length ∧ i = .int .i64 k ∧ out = .slice A' (dids done k).length c' ∧ OwnEvs wr (w.heap.size + 2) A' c' (dids done k) ∧ Below (w.heap.size + 2) w1 wr) (fun _ i _ => done.length - (intOf i).toNat)
  case atStart => exact ⟨0, some ⟨w.heap.size + 2, 0, none⟩, 0, Nat.zero_le _, rfl, rfl, oz, Below.refl _ _⟩
  case round =>
    clear oz f0 f1 r0 r1
    obtain ⟨k, A', c', hk, rfl, rfl, ho, hb⟩ := hrel
    have hbw := b1.trans (hb.mono (by omega))
    have hsz := hb.size
    have f0 := (hb.cell (p := ⟨w.heap.size, 0, none⟩) (by show w.heap.size < w.heap.size + 2; omega)).trans z1.c0
    have f1 := (hb.cell (p := ⟨w.heap.size, 1, none⟩) (by show w.heap.size < w.heap.size + 2; omega)).trans z1.c1
    have r0 := (hb.cell (p := ⟨w.heap.size + 1, 0, none⟩) (by show w.heap.size + 1 < w.heap.size + 2; omega)).trans z2.c0
    have r1 := (hb.cell (p := ⟨w.heap.size + 1, 1, none⟩) (by show w.heap.size + 1 < w.heap.size + 2; omega)).trans z2.c1
    have hst := h.then_ hbw
    have hdn := hd.then_ hbw
    by_cases hlt : k < done.length
    · obtain ⟨ad, rfl, had, hc0⟩ := hdn.at_ hlt
      have hns := hd.lens k hlt
      have hds := dids_succ hlt
      have hdk := dids_len (Nat.le_of_lt hlt)
      have ho2 := ho.alloc (.cells #[.int .i64 1, .string done[k]] 41)
      have hq := Cell2.new wr (.int .i64 1) (.string done[k]) 41
      have hi0 : (0 : Int) ≤ k := by omega
      have hi1 : (k : Int) < done.length := by omega
      go_wp2_with (at_builtin; (refine wpList_append_event _ rfl (.tmp 21) (.tmp 28) rfl (w.heap.size + 2) A' c' _ rfl ho2 ⟨wr.heap.size, 0, none⟩ 1 ⟨1, done[k]⟩ rfl hq.c0 hq.c1 hns (by omega) (by simp; omega) ?_); intro A3 c3 w3 hap)
      go_roundw
      case rel =>
        obtain ⟨hown, hlow, hgr, _⟩ := hap
        rw [← hds] at hown
        refine ⟨k + 1, A3, c3, by omega, by go_num, ?_, hown, (hb.alloc (by omega) _).trans hlow⟩
        rw [hds]; simp; omega
      case measure => simp [intOf]; omega
    · have hke : k = done.length := by omega
      subst hke
      clear hlt hk
      by_cases hs : st = 1 ∨ st = 3
      · obtain ⟨n, r, hr⟩ := back_ready HT.out hs
        have ht := tailEv_yes hs hr
        obtain ⟨xs, hxs⟩ : ∃ xs, xs = n :: r := ⟨_, rfl⟩
        have hx0 : 0 < xs.length := by rw [hxs]; simp
        have hxn : xs[0] = n := by simp [hxs]
        have KR : Hid (Calls Try.prog 69 #[flowV ver SA ss.length sc, .slice D done.length d] wr (RetStrs xs wr)) := Lib.hid (by
          have hh := sFlowReady_any ver SA D sc d ss done wr _ _ hst hdn hl
          rw [readyOut_yes hfo, hr] at hh
          rw [hxs]
          exact hh)
        clear hxs
        have ET := Lib.hid (E1.out.trans (by rw [ht]))
        have hob := ho
        have hml : (dids done done.length).length ≤ 8 := by rw [dids_len (Nat.le_refl _)]; exact hdl8
        clear hr ht E1
        rcases two_ways (a := 1) (b := 3) (by decide) hs with ⟨e1, e3⟩ | ⟨e1, e3⟩
        all_goals
          clear hs
          go_wp2_with fail
          (with_reducible refine KR.out.mono ?_)
          rintro e w2 ⟨A5, c5, rfl, ho5, hb5⟩
          obtain ⟨a5, rfl, ha5, hc5⟩ := ho5.strs.at_ (k := 0) hx0
          have hn5 := ho5.strs.lens 0 hx0
          rw [hxn] at hc5 hn5
          have hl5 := ho5.strs.len
          have hc5' := ho5.strs.cap
          have hlp : (0 : Int) < xs.length := by omega
          have had0 : a5.add 0 = a5 := by unfold Addr.add; simp
          rw [had0] at hc5
          have ho6 := (ho.below hb5).alloc (.cells #[.int .i64 2, .string n] 41)
          have hq := Cell2.new w2 (.int .i64 2) (.string n) 41
          have bw2 := bthen hbw hb5
          have hz5 := hb5.size
          go_wp2_with (at_builtin; (refine wpList_append_event _ rfl (.tmp 38) (.tmp 46) rfl (w.heap.size + 2) A' c' _ rfl ho6 ⟨w2.heap.size, 0, none⟩ 1 ⟨2, n⟩ rfl hq.c0 hq.c1 hn5 (by omega) (by simp; omega) ?_); intro A7 c7 w7 hap)
          obtain ⟨hown, hlow, hgr, _⟩ := hap
          refine bodyPost_ret (v := .tuple #[.slice A7 ((dids done done.length).length + 1) c7, .bool true]) (by simp [results, Try.results34, go_sem]) rfl ?_
          rw [ET.out, HT.out]
          refine ⟨A7, c7, by simp, hown.base_ (by omega), (bw2.alloc bw2.size _).trans (hlow.mono (by omega))⟩
      · have ht := tailEv_no (ss := ss) (done := done) (st := st) (by omega) (by omega)
        have ET := Lib.hid (E1.out.trans (by rw [ht, List.append_nil]))
        have e1 : (st == 1) = false := beq_eq_false_iff_ne.2 (by omega)
        have e3 : (st == 3) = false := beq_eq_false_iff_ne.2 (by omega)
        clear hs ht E1
        go_wp2_with fail
        refine bodyPost_ret (v := .tuple #[.slice A' (dids done done.length).length c', .bool true]) (by simp [results, Try.results34, go_sem]) rfl ?_
        rw [ET.out, HT.out]
        exact ⟨A', c', rfl, ho.base_ (by omega), hbw⟩
end Go.Proofs.Ytaelacpkagcffaa
