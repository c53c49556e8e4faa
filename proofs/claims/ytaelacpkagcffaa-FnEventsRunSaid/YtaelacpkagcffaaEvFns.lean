/- Contracts of EventsRun: program and reference. Condition: at most 2000000 steps. -/
import Derived.Test.YtaelacpkagcffaaEvPlain
import Derived.Test.YtaelacpkagcffaaEvents
import Derived.Test.YtaelacpkagcffaaRunBox
import Derived.Test.YtaelacpkagcffaaCutRun
import Derived.Test.YtaelacpkagcffaaStepRows
namespace Go.Proofs.Ytaelacpkagcffaa
set_option linter.unusedVariables false
set_option maxRecDepth 100000
open Go.RowKit

theorem OwnStrs.setOther {w : World} {base : Nat} {A : Option Addr} {c : Nat} {xs : List ByteArray} (h : OwnStrs w base A c xs) {p : Addr} (hne : ∀ q, A = some q → q.block ≠ p.block) (u : Value) : OwnStrs (w.setCell p u) base A c xs :=
  ⟨row_move h.1 fun k e => by
    cases A with
    | none => cases e
    | some q =>
      have e : q.block = k := by injection e
      exact Below.heap_setCell _ _ _ _ (by rw [← e]; exact hne q rfl), h.2⟩
theorem below_drew_in {w wx : World} (h : Below w.drew.heap.size w.drew wx) : Below w.heap.size w wx := Below.undrew h
/-- A run, a number and a word are handed back. -/
def RetRunN (st : Int) (done : List ByteArray) (n : Nat) (ok : Bool) (w : World) (e : Ending) (w' : World) : Prop :=
  ∃ A c, e = .returned (.tuple #[.agg #[.int .i64 st, .slice A done.length c], .int .i64 n, .bool ok]) ∧ OwnStrs w' w.heap.size A c done ∧ Below w.heap.size w w'

set_option maxHeartbeats 1000000 in
theorem runClone_any (st : Int) (D : Option Addr) (d : Nat) (done : List ByteArray) (w : World) (B : Nat) (h : Strs w B D d done) (hl : done.length ≤ 2000000) :
    Calls Try.prog 62 #[runV st D done.length d] w fun e w' => ∃ A c, e = .returned (.agg #[.int .i64 st, .slice A done.length c]) ∧ OwnStrs w' w.heap.size A c done ∧ Below w.heap.size w w' := by
  have b0 : Below w.heap.size w ((w.alloc (.cells #[.int .i64 st, .slice D done.length d] 33)).alloc (.cells #[.int .i64 0, .slice none 0 0] 33)) := ((Below.refl _ _).alloc (Nat.le_refl _) _).alloc (by simp) _
  obtain ⟨y1, y2, y3⟩ := two_boxes w (.int .i64 st) (.slice D done.length d) (.int .i64 0) (.slice none 0 0) 33 33
  have z1 : RBox ((w.alloc (.cells #[.int .i64 st, .slice D done.length d] 33)).alloc (.cells #[.int .i64 0, .slice none 0 0] 33)) w.heap.size (.int .i64 st) (.slice D done.length d) := (RBox.new w _ _).alloc _
  have hs2 : ((w.alloc (.cells #[.int .i64 st, .slice D done.length d] 33)).alloc (.cells #[.int .i64 0, .slice none 0 0] 33)).heap.size = w.heap.size + 2 := by simp
  have hlen := h.len
  have hcap := h.cap
  go_enter Try.func62, Try.ntmps62
  go_wp2_with fail
  (with_reducible refine (clone_any D d done _ _ (h.then_ b0) hl).mono ?_)
  rintro e w1 ⟨A1, c1, rfl, ho1, hb1⟩
  have b1 := bthen b0 hb1
  have u1 := z1.then_ hb1
  have u2 := y2.then_ hb1
  rw [hs2] at ho1
  obtain ⟨p0, p1⟩ := u1.cells
  obtain ⟨r0, r1⟩ := id u2
  have pf := fun i => u1.free i
  have rf := fun i => (hb1.frozen (p := ⟨w.heap.size + 1, i, none⟩) y2.lt).trans (y3 i)
  have l1 := u1.lt
  have l2 := u2.lt
  clear y1 y2 y3 z1 u1 u2 b0 hb1 hs2
  go_wp2_with fail
  refine bodyPost_ret (v := .agg #[.int .i64 st, .slice A1 done.length c1]) (by simp [results, Try.results62, go_sem, r0, r1]) rfl ?_
  refine ⟨A1, c1, rfl, ?_, ((b1.setCell (by show w.heap.size ≤ w.heap.size; omega) _).setCell (by show w.heap.size ≤ w.heap.size + 1; omega) _).setCell (by show w.heap.size ≤ w.heap.size + 1; omega) _⟩
  exact (((ho1.setLow (a := ⟨w.heap.size, 1, none⟩) (by show w.heap.size < w.heap.size + 2; omega) _).setLow (a := ⟨w.heap.size + 1, 0, none⟩) (by show w.heap.size + 1 < w.heap.size + 2; omega) _).setLow (a := ⟨w.heap.size + 1, 1, none⟩) (by show w.heap.size + 1 < w.heap.size + 2; omega) _).base_ (by omega)

set_option maxHeartbeats 8000000 in
theorem iEventsRun_any (ver : Int) (SA EA : Option Addr) (sc ec : Nat) (ss : List St) (es : List Ev) (w : World) (B B' : Nat) (h : Sts w B SA sc ss) (he : Evs w B' EA ec es) (hl : ss.length ≤ 2000000) :
    Calls Try.prog 29 #[flowV ver SA ss.length sc, .slice EA es.length ec] w (RetRunN (erSt ver ss es) (erDone ver ss es) (erN ver ss es) (erB ver ss es) w) := by
  have hel := he.len
  have hec := he.cap
  have b0 : Below w.heap.size w ((w.alloc (.cells #[.int .i64 ver, .slice SA ss.length sc] 38)).alloc (.cells #[.int .i64 0, .slice none 0 0] 33)) := ((Below.refl _ _).alloc (Nat.le_refl _) _).alloc (by simp) _
  have y1 : Cell2 ((w.alloc (.cells #[.int .i64 ver, .slice SA ss.length sc] 38)).alloc (.cells #[.int .i64 0, .slice none 0 0] 33)) w.heap.size (.int .i64 ver) (.slice SA ss.length sc) := (Cell2.new w _ _ _).alloc _
  have y2 : RBox ((w.alloc (.cells #[.int .i64 ver, .slice SA ss.length sc] 38)).alloc (.cells #[.int .i64 0, .slice none 0 0] 33)) (w.heap.size + 1) (.int .i64 0) (.slice none 0 0) := RBox.new_at _ _ _ (by simp)
  have hs2 : ((w.alloc (.cells #[.int .i64 ver, .slice SA ss.length sc] 38)).alloc (.cells #[.int .i64 0, .slice none 0 0] 33)).heap.size = w.heap.size + 2 := by simp
  go_enter Try.func29, Try.ntmps29
  go_wp2_with fail
  (with_reducible refine (iRunNew_any ver SA sc ss _ _ (h.then_ b0)).mono ?_)
  rintro e w1 ⟨D0, d0, rfl, ho1, hb1⟩
  have b1 := bthen b0 hb1
  have z1 := y1.then_ hb1
  have z2 := y2.then_ hb1
  have hz1 : w.heap.size + 2 ≤ w1.heap.size := by have := hb1.size; omega
  rw [hs2] at ho1
  have hn0 : ∀ q, D0 = some q → q.block ≠ w1.heap.size := fun q e => by
    subst e
    have := (own_lt ho1).2
    omega
  clear y1 y2 b0 hb1 hs2
  have hl0 := z1.lt
  have hl1 := z2.lt
  obtain ⟨f0, f1⟩ := id z1
  obtain ⟨r0, r1⟩ := z2.cells
  have rf := fun i => z2.free i
  cases hok : flowOk ver ss
  · obtain ⟨e1, e2, e3⟩ := er_no (er_noFlow (es := es) hok)
    have E0 := Lib.hid (er_noFlow (es := es) hok)
    have E1 := Lib.hid e1
    have E2 := Lib.hid e2
    have E3 := Lib.hid e3
    clear e1 e2 e3 hok
    go_wp2_with fail
    have e := fun i => World.cell?_alloc_lt ((w1.setCell ⟨w.heap.size + 1, 0, none⟩ (.int .i64 0)).setCell ⟨w.heap.size + 1, 1, none⟩ (.slice none 0 0)) (.cells #[.int .i64 0, .slice D0 noNames.length d0] 33) ⟨w.heap.size + 1, i, none⟩ (by simp; omega)
    refine bodyPost_ret (v := .tuple #[.agg #[.int .i64 0, .slice none 0 0], .int .i64 0, .bool false]) (by simp [results, Try.results29, go_sem, e, r0, r1]) rfl ?_
    rw [E0.out, E1.out, E2.out, E3.out]
    exact ⟨none, 0, rfl, OwnStrs.nil_ _ _, ((b1.setCell (p := ⟨w.heap.size + 1, 0, none⟩) (by show w.heap.size ≤ w.heap.size + 1; omega) _).setCell (p := ⟨w.heap.size + 1, 1, none⟩) (by show w.heap.size ≤ w.heap.size + 1; omega) _).alloc (by simp; omega) _⟩
  have b2 : Below w.heap.size w (w1.alloc (.cells #[.int .i64 0, .slice D0 noNames.length d0] 33)) := b1.alloc b1.size _
  cases hev : evsOk es
  · obtain ⟨e1, e2, e3⟩ := er_no (er_noEvs (ver := ver) (ss := ss) hev)
    have E0 := Lib.hid (er_noEvs (ver := ver) (ss := ss) hev)
    have E1 := Lib.hid e1
    have E2 := Lib.hid e2
    have E3 := Lib.hid e3
    have KV := Lib.hid ((iEventsValid_any EA ec es (w1.alloc (.cells #[.int .i64 0, .slice D0 noNames.length d0] 33)) _ (he.then_ b2)).mono fun e w' ⟨h1, h2⟩ => (⟨h1.trans (ret_bool hev), h2⟩ : e = Ending.returned (.bool false) ∧ Below (w1.alloc (.cells #[.int .i64 0, .slice D0 noNames.length d0] 33)).heap.size (w1.alloc (.cells #[.int .i64 0, .slice D0 noNames.length d0] 33)) w'))
    have rx := (z2.alloc (.cells #[.int .i64 0, .slice D0 noNames.length d0] 33))
    clear e1 e2 e3 hok hev
    go_wp2_with fail
    (with_reducible refine KV.out.mono ?_)
    rintro e w2 ⟨rfl, hb2⟩
    obtain ⟨q0, q1⟩ := (rx.then_ hb2).cells
    have qf := fun i => (rx.then_ hb2).free i
    have b3 := bthen b2 hb2
    have hz2 := b3.size
    have hl2 := (rx.then_ hb2).lt
    go_wp2_with fail
    refine bodyPost_ret (v := .tuple #[.agg #[.int .i64 0, .slice none 0 0], .int .i64 0, .bool false]) (by simp [results, Try.results29, go_sem, q0, q1]) rfl ?_
    rw [E0.out, E1.out, E2.out, E3.out]
    exact ⟨none, 0, rfl, OwnStrs.nil_ _ _, (b3.setCell (p := ⟨w.heap.size + 1, 0, none⟩) (by show w.heap.size ≤ w.heap.size + 1; omega) _).setCell (p := ⟨w.heap.size + 1, 1, none⟩) (by show w.heap.size ≤ w.heap.size + 1; omega) _⟩
  have hB : erB ver ss es = true := erB_iff.2 ⟨hok, hev⟩
  have HB := Lib.hid hB
  have H0 := Lib.hid (runOk_new hok)
  have KV := Lib.hid ((iEventsValid_any EA ec es (w1.alloc (.cells #[.int .i64 0, .slice D0 noNames.length d0] 33)) _ (he.then_ b2)).mono fun e w' ⟨h1, h2⟩ => (⟨h1.trans (ret_bool hev), h2⟩ : e = Ending.returned (.bool true) ∧ Below (w1.alloc (.cells #[.int .i64 0, .slice D0 noNames.length d0] 33)).heap.size (w1.alloc (.cells #[.int .i64 0, .slice D0 noNames.length d0] 33)) w'))
  clear hok hev hB
  go_wp2_with fail
  (with_reducible refine KV.out.mono ?_)
  rintro e w2 ⟨rfl, hb2⟩
  have hc1 : Below w1.heap.size w1 w2 := bthen ((Below.refl _ _).alloc (Nat.le_refl _) _) hb2
  have rx := (RBox.new w1 (.int .i64 0) (.slice D0 noNames.length d0)).then_ hb2
  have ho2 := ho1.below hc1
  clear KV hb2
  go_wp2_with fail
  go_loopw [28] (fun i wr => ∃ (k : Nat) (st : Int) (D : Option Addr) (d : Nat) (cu : List ByteArray), k ≤ es.length ∧ i = .int .i64 k ∧ Hid (evGo ver ss 0 [] es 0 = evGo ver ss st cu (es.drop k) k) ∧ Below w1.heap.size w1 wr ∧ RBox wr w1.heap.size (.int .i64 st) (.slice D cu.length d) ∧ OwnStrs wr (w.heap.size + 2) D d cu ∧ (∀ q, D = some q → q.block ≠ w1.heap.size) ∧ Hid (runOk ver ss st cu = true)) (fun i _ => es.length - (intOf i).toNat)
  case atStart => exact ⟨0, 0, D0, d0, noNames, Nat.zero_le _, rfl, Lib.hid rfl, hc1, rx, ho2, hn0, H0⟩
  case round =>
    clear hc1 rx ho2 hn0 H0
    obtain ⟨k, st, D, d, cu, hk, rfl, hgo, hb, rx, ho, hn, hr⟩ := hrel
    have hbw := b1.trans (hb.mono (by omega))
    have v1 := z1.then_ hb
    have v2 := z2.then_ hb
    have hsz := hb.size
    have hxl := rx.lt
    have hvl := v1.lt
    have hvl2 := v2.lt
    have hcl : cu.length ≤ 8 := Nat.le_trans (run_len hr.out) (run_ss hr.out)
    have hst := h.then_ hbw
    obtain ⟨x0, x1⟩ := rx.cells
    have xf := fun i => rx.free i
    obtain ⟨g0, g1⟩ := id v1
    obtain ⟨t0, t1⟩ := v2.cells
    have tf := fun i => v2.free i
    clear f0 f1 r0 r1 rf
    by_cases hlt : k < es.length
    · obtain ⟨ad, rfl, had, hc0, hcx⟩ := (he.then_ hbw).at_ hlt
      have hns := he.lens k hlt
      have hi0 : (0 : Int) ≤ k := by omega
      have hi1 : (k : Int) < es.length := by omega
      obtain ⟨kd, hkd⟩ : ∃ kd, kd = es[k].kind := ⟨_, rfl⟩
      obtain ⟨nm, hnm⟩ : ∃ nm, nm = es[k].name := ⟨_, rfl⟩
      rw [← hkd] at hc0
      rw [← hnm] at hcx hns
      cases hev : evB ver ss st cu kd nm
      · have hev2 : evB ver ss st cu es[k].kind es[k].name = false := by rw [← hkd, ← hnm]; exact hev
        have hstop := hgo.out.trans (evGo_stop hlt hev2)
        obtain ⟨q1, q2, q3⟩ := er_yes HB.out hstop
        have Q1 := Lib.hid q1
        have Q2 := Lib.hid q2
        have Q3 := Lib.hid q3
        have KE : Hid (∀ wx, Below wr.heap.size wr wx → Calls Try.prog 20 #[flowV ver SA ss.length sc, runV st D cu.length d, .agg #[.int .i64 kd, .string nm]] wx (RetRun (evSt ver ss st cu kd nm) (evDone ver ss st cu kd nm) false wx)) := Lib.hid (fun wx hx => by
          have hh := iEventRun_any ver st SA D sc d ss cu kd nm wx _ _ (hst.then_ hx) (ho.strs.then_ hx) hns hl
          rw [hev] at hh
          exact hh)
        have hbe : Below wr.heap.size wr (wr.alloc (.cells #[.int .i64 kd, .string nm] 41)) := (Below.refl _ _).alloc (Nat.le_refl _) _
        clear q1 q2 q3 hstop hev hev2 hkd hnm hgo had
        go_wp2_with fail
        (with_reducible refine (KE.out _ hbe).mono ?_)
        rintro e w3 ⟨A3, c3, rfl, ho3, hb3⟩
        have hb3' := bthen hbe hb3
        obtain ⟨x0, x1⟩ := (rx.then_ hb3').cells
        obtain ⟨t0, t1⟩ := (v2.then_ hb3').cells
        have tf := fun i => (v2.then_ hb3').free i
        have hz3 := hb3'.size
        have hq1 := (rx.then_ hb3').lt
        have hq2 := (v2.then_ hb3').lt
        have hb4 := bthen hb3' ((Below.refl _ _).alloc (Nat.le_refl _) (.cells #[.int .i64 (evSt ver ss st cu kd nm), .slice A3 (evDone ver ss st cu kd nm).length c3] 33))
        clear ho3 hb3 hbe KE
        go_wp2_with fail
        (with_reducible refine (runClone_any st D d cu _ _ (ho.strs.then_ hb4) (by omega)).mono ?_)
        rintro e w5 ⟨A5, c5, rfl, ho5, hb5⟩
        have hb5' := bthen hb4 hb5
        obtain ⟨t0, t1⟩ := (v2.then_ hb5').cells
        have tf := fun i => (v2.then_ hb5').free i
        have hl5 := (v2.then_ hb5').lt
        have ho5' := ho5.base_ (base' := w.heap.size + 2) (by have := hb4.size; omega)
        have bw5 := bthen hbw hb5'
        clear hb5 hb5' hb4 hb3' hbw ho5
        go_wp2_with fail
        refine bodyPost_ret (v := .tuple #[.agg #[.int .i64 st, .slice A5 cu.length c5], .int .i64 k, .bool true]) (by simp [results, Try.results29, go_sem, t0, t1]) rfl ?_
        rw [HB.out, Q1.out, Q2.out, Q3.out]
        refine ⟨A5, c5, rfl, ?_, (bw5.setCell (p := ⟨w.heap.size + 1, 0, none⟩) (by show w.heap.size ≤ w.heap.size + 1; omega) _).setCell (p := ⟨w.heap.size + 1, 1, none⟩) (by show w.heap.size ≤ w.heap.size + 1; omega) _⟩
        exact ((ho5'.setLow (a := ⟨w.heap.size + 1, 0, none⟩) (by show w.heap.size + 1 < w.heap.size + 2; omega) _).setLow (a := ⟨w.heap.size + 1, 1, none⟩) (by show w.heap.size + 1 < w.heap.size + 2; omega) _).base_ (by omega)
      · have hev2 : evB ver ss st cu es[k].kind es[k].name = true := by rw [← hkd, ← hnm]; exact hev
        have hstep := hgo.out.trans (evGo_step hlt hev2)
        rw [← hkd, ← hnm] at hstep
        have HS := Lib.hid hstep
        have HR := Lib.hid (ev_ok hev)
        have KE : Hid (∀ wx, Below wr.heap.size wr wx → Calls Try.prog 20 #[flowV ver SA ss.length sc, runV st D cu.length d, .agg #[.int .i64 kd, .string nm]] wx (RetRun (evSt ver ss st cu kd nm) (evDone ver ss st cu kd nm) true wx)) := Lib.hid (fun wx hx => by
          have hh := iEventRun_any ver st SA D sc d ss cu kd nm wx _ _ (hst.then_ hx) (ho.strs.then_ hx) hns hl
          rw [hev] at hh
          exact hh)
        have hbe : Below wr.heap.size wr (wr.alloc (.cells #[.int .i64 kd, .string nm] 41)) := (Below.refl _ _).alloc (Nat.le_refl _) _
        have hse : (wr.alloc (.cells #[.int .i64 kd, .string nm] 41)).heap.size = wr.heap.size + 1 := by simp
        generalize evSt ver ss st cu kd nm = st2 at *
        generalize evDone ver ss st cu kd nm = cu2 at *
        clear hstep hev hev2 hkd hnm hgo had
        go_wp2_with fail
        (with_reducible refine (KE.out _ hbe).mono ?_)
        rintro e w3 ⟨A3, c3, rfl, ho3, hb3⟩
        have hb3' := bthen hbe hb3
        have rx3 := rx.then_ hb3'
        obtain ⟨x0, x1⟩ := rx3.cells
        have xf := fun i => rx3.free i
        have hz3 := hb3'.size
        have hxl3 := rx3.lt
        have hne3 : ∀ q, A3 = some q → q.block ≠ w1.heap.size := fun q e => by
          subst e
          have := (own_lt ho3).1
          rw [hse] at this
          omega
        have ho4 := ho3.base_ (base' := w.heap.size + 2) (by rw [hse]; omega)
        have ho6 := ((ho4.setOther (p := ⟨w1.heap.size, 0, none⟩) hne3 (.int .i64 st2)).setOther (p := ⟨w1.heap.size, 1, none⟩) hne3 (.slice A3 cu2.length c3)).alloc (.cells #[.int .i64 st2, .slice A3 cu2.length c3] 33)
        have rx6 := ((rx3.set0 (.int .i64 st2)).set1 (.slice A3 cu2.length c3)).alloc (.cells #[.int .i64 st2, .slice A3 cu2.length c3] 33)
        have hb6 := ((((hb.trans (hb3'.mono hsz))).setCell (p := ⟨w1.heap.size, 0, none⟩) (Nat.le_refl _) (.int .i64 st2)).setCell (p := ⟨w1.heap.size, 1, none⟩) (by show w1.heap.size ≤ w1.heap.size; omega) (.slice A3 cu2.length c3)).alloc (by simp; omega) (.cells #[.int .i64 st2, .slice A3 cu2.length c3] 33)
        clear hb3 hbe KE ho3 ho4 hb3' rx3 hse
        go_wp2_with fail
        go_roundw
        case rel => exact ⟨k + 1, st2, A3, c3, cu2, by omega, by go_num, HS, hb6, rx6, ho6, hne3, HR⟩
        case measure => simp [intOf]; omega
    · have hke : k = es.length := by omega
      subst hke
      have hend := hgo.out.trans (evGo_end (Nat.le_refl _))
      obtain ⟨q1, q2, q3⟩ := er_yes HB.out hend
      have Q1 := Lib.hid q1
      have Q2 := Lib.hid q2
      have Q3 := Lib.hid q3
      clear q1 q2 q3 hend hgo
      go_wp2_with fail
      (with_reducible refine (runClone_any st D d cu _ _ ho.strs (by omega)).mono ?_)
      rintro e w5 ⟨A5, c5, rfl, ho5, hb5⟩
      obtain ⟨t0, t1⟩ := (v2.then_ hb5).cells
      have tf := fun i => (v2.then_ hb5).free i
      have hl5 := (v2.then_ hb5).lt
      have ho5' := ho5.base_ (base' := w.heap.size + 2) (by omega)
      have bw5 := bthen hbw hb5
      clear hb5 hbw ho5
      go_wp2_with fail
      refine bodyPost_ret (v := .tuple #[.agg #[.int .i64 st, .slice A5 cu.length c5], .int .i64 es.length, .bool true]) (by simp [results, Try.results29, go_sem, t0, t1]) rfl ?_
      rw [HB.out, Q1.out, Q2.out, Q3.out]
      refine ⟨A5, c5, rfl, ?_, (bw5.setCell (p := ⟨w.heap.size + 1, 0, none⟩) (by show w.heap.size ≤ w.heap.size + 1; omega) _).setCell (p := ⟨w.heap.size + 1, 1, none⟩) (by show w.heap.size ≤ w.heap.size + 1; omega) _⟩
      exact ((ho5'.setLow (a := ⟨w.heap.size + 1, 0, none⟩) (by show w.heap.size + 1 < w.heap.size + 2; omega) _).setLow (a := ⟨w.heap.size + 1, 1, none⟩) (by show w.heap.size + 1 < w.heap.size + 2; omega) _).base_ (by omega)

set_option maxHeartbeats 8000000 in
theorem sEventsRun_any (ver : Int) (SA EA : Option Addr) (sc ec : Nat) (ss : List St) (es : List Ev) (w : World) (B B' : Nat) (h : Sts w B SA sc ss) (he : Evs w B' EA ec es) (hl : ss.length ≤ 2000000) :
    Calls Try.prog 27 #[flowV ver SA ss.length sc, .slice EA es.length ec] w (RetRunN (erSt ver ss es) (erDone ver ss es) (erN ver ss es) (erB ver ss es) w) := by
  have hel := he.len
  have hec := he.cap
  have b0 : Below w.heap.size w ((w.alloc (.cells #[.int .i64 ver, .slice SA ss.length sc] 38)).alloc (.cells #[.int .i64 0, .slice none 0 0] 33)) := ((Below.refl _ _).alloc (Nat.le_refl _) _).alloc (by simp) _
  have y1 : Cell2 ((w.alloc (.cells #[.int .i64 ver, .slice SA ss.length sc] 38)).alloc (.cells #[.int .i64 0, .slice none 0 0] 33)) w.heap.size (.int .i64 ver) (.slice SA ss.length sc) := (Cell2.new w _ _ _).alloc _
  have y2 : RBox ((w.alloc (.cells #[.int .i64 ver, .slice SA ss.length sc] 38)).alloc (.cells #[.int .i64 0, .slice none 0 0] 33)) (w.heap.size + 1) (.int .i64 0) (.slice none 0 0) := RBox.new_at _ _ _ (by simp)
  have hs2 : ((w.alloc (.cells #[.int .i64 ver, .slice SA ss.length sc] 38)).alloc (.cells #[.int .i64 0, .slice none 0 0] 33)).heap.size = w.heap.size + 2 := by simp
  go_enter Try.func27, Try.ntmps27
  go_wp2_with fail
  (with_reducible refine (sRunNew_any ver SA sc ss _ _ (h.then_ b0) hl).mono ?_)
  rintro e w1 ⟨D0, d0, rfl, ho1, hb1⟩
  have b1 := bthen b0 hb1
  have z1 := y1.then_ hb1
  have z2 := y2.then_ hb1
  have hz1 : w.heap.size + 2 ≤ w1.heap.size := by have := hb1.size; omega
  rw [hs2] at ho1
  have hn0 : ∀ q, D0 = some q → q.block ≠ w1.heap.size := fun q e => by
    subst e
    have := (own_lt ho1).2
    omega
  clear y1 y2 b0 hb1 hs2
  have hl0 := z1.lt
  have hl1 := z2.lt
  obtain ⟨f0, f1⟩ := id z1
  obtain ⟨r0, r1⟩ := z2.cells
  have rf := fun i => z2.free i
  cases hok : flowOk ver ss
  · obtain ⟨e1, e2, e3⟩ := er_no (er_noFlow (es := es) hok)
    have E0 := Lib.hid (er_noFlow (es := es) hok)
    have E1 := Lib.hid e1
    have E2 := Lib.hid e2
    have E3 := Lib.hid e3
    clear e1 e2 e3 hok
    go_wp2_with fail
    have e := fun i => World.cell?_alloc_lt ((w1.setCell ⟨w.heap.size + 1, 0, none⟩ (.int .i64 0)).setCell ⟨w.heap.size + 1, 1, none⟩ (.slice none 0 0)) (.cells #[.int .i64 0, .slice D0 noNames.length d0] 33) ⟨w.heap.size + 1, i, none⟩ (by simp; omega)
    refine bodyPost_ret (v := .tuple #[.agg #[.int .i64 0, .slice none 0 0], .int .i64 0, .bool false]) (by simp [results, Try.results27, go_sem, e, r0, r1]) rfl ?_
    rw [E0.out, E1.out, E2.out, E3.out]
    exact ⟨none, 0, rfl, OwnStrs.nil_ _ _, ((b1.setCell (p := ⟨w.heap.size + 1, 0, none⟩) (by show w.heap.size ≤ w.heap.size + 1; omega) _).setCell (p := ⟨w.heap.size + 1, 1, none⟩) (by show w.heap.size ≤ w.heap.size + 1; omega) _).alloc (by simp; omega) _⟩
  have b2 : Below w.heap.size w (w1.alloc (.cells #[.int .i64 0, .slice D0 noNames.length d0] 33)) := b1.alloc b1.size _
  cases hev : evsOk es
  · obtain ⟨e1, e2, e3⟩ := er_no (er_noEvs (ver := ver) (ss := ss) hev)
    have E0 := Lib.hid (er_noEvs (ver := ver) (ss := ss) hev)
    have E1 := Lib.hid e1
    have E2 := Lib.hid e2
    have E3 := Lib.hid e3
    have KV := Lib.hid ((sEventsValid_any EA ec es (w1.alloc (.cells #[.int .i64 0, .slice D0 noNames.length d0] 33)) _ (he.then_ b2)).mono fun e w' ⟨h1, h2⟩ => (⟨h1.trans (ret_bool hev), h2⟩ : e = Ending.returned (.bool false) ∧ (w1.alloc (.cells #[.int .i64 0, .slice D0 noNames.length d0] 33)) = w'))
    clear e1 e2 e3 hok hev
    go_wp2_with (go_at_call 61; (with_reducible refine KV.out.mono ?_); rintro e w' ⟨rfl, rfl⟩)
    have e := fun i => World.cell?_alloc_lt ((w1.setCell ⟨w.heap.size + 1, 0, none⟩ (.int .i64 0)).setCell ⟨w.heap.size + 1, 1, none⟩ (.slice none 0 0)) (.cells #[.int .i64 0, .slice D0 noNames.length d0] 33) ⟨w.heap.size + 1, i, none⟩ (by simp; omega)
    refine bodyPost_ret (v := .tuple #[.agg #[.int .i64 0, .slice none 0 0], .int .i64 0, .bool false]) (by simp [results, Try.results27, go_sem, e, r0, r1]) rfl ?_
    rw [E0.out, E1.out, E2.out, E3.out]
    exact ⟨none, 0, rfl, OwnStrs.nil_ _ _, ((b1.setCell (p := ⟨w.heap.size + 1, 0, none⟩) (by show w.heap.size ≤ w.heap.size + 1; omega) _).setCell (p := ⟨w.heap.size + 1, 1, none⟩) (by show w.heap.size ≤ w.heap.size + 1; omega) _).alloc (by simp; omega) _⟩
  have hB : erB ver ss es = true := erB_iff.2 ⟨hok, hev⟩
  have HB := Lib.hid hB
  have H0 := Lib.hid (runOk_new hok)
  have KV := Lib.hid ((sEventsValid_any EA ec es (w1.alloc (.cells #[.int .i64 0, .slice D0 noNames.length d0] 33)) _ (he.then_ b2)).mono fun e w' ⟨h1, h2⟩ => (⟨h1.trans (ret_bool hev), h2⟩ : e = Ending.returned (.bool true) ∧ (w1.alloc (.cells #[.int .i64 0, .slice D0 noNames.length d0] 33)) = w'))
  have hc1 : Below w1.heap.size w1 (w1.alloc (.cells #[.int .i64 0, .slice D0 noNames.length d0] 33)) := (Below.refl _ _).alloc (Nat.le_refl _) _
  have rx := RBox.new w1 (.int .i64 0) (.slice D0 noNames.length d0)
  have ho2 := ho1.below hc1
  clear hok hev hB
  go_wp2_with (go_at_call 61; (with_reducible refine KV.out.mono ?_); rintro e w' ⟨rfl, rfl⟩)
  go_loopw [9] (fun i wr => ∃ (k : Nat) (st : Int) (D : Option Addr) (d : Nat) (cu : List ByteArray), k ≤ es.length ∧ i = .int .i64 k ∧ Hid (evGo ver ss 0 [] es 0 = evGo ver ss st cu (es.drop k) k) ∧ Below w1.heap.size w1 wr ∧ RBox wr w1.heap.size (.int .i64 st) (.slice D cu.length d) ∧ OwnStrs wr (w.heap.size + 2) D d cu ∧ (∀ q, D = some q → q.block ≠ w1.heap.size) ∧ Hid (runOk ver ss st cu = true)) (fun i _ => es.length - (intOf i).toNat)
  case atStart => exact ⟨0, 0, D0, d0, noNames, Nat.zero_le _, rfl, Lib.hid rfl, hc1, rx, ho2, hn0, H0⟩
  case round =>
    clear hc1 rx ho2 hn0 H0
    obtain ⟨k, st, D, d, cu, hk, rfl, hgo, hb, rx, ho, hn, hr⟩ := hrel
    have hbw := b1.trans (hb.mono (by omega))
    have v1 := z1.then_ hb
    have v2 := z2.then_ hb
    have hsz := hb.size
    have hxl := rx.lt
    have hvl := v1.lt
    have hvl2 := v2.lt
    have hcl : cu.length ≤ 8 := Nat.le_trans (run_len hr.out) (run_ss hr.out)
    have hst := h.then_ hbw
    obtain ⟨x0, x1⟩ := rx.cells
    have xf := fun i => rx.free i
    obtain ⟨g0, g1⟩ := id v1
    obtain ⟨t0, t1⟩ := v2.cells
    have tf := fun i => v2.free i
    clear f0 f1 r0 r1 rf
    by_cases hlt : k < es.length
    · obtain ⟨ad, rfl, had, hc0, hcx⟩ := (he.then_ hbw).at_ hlt
      have hns := he.lens k hlt
      have hi0 : (0 : Int) ≤ k := by omega
      have hi1 : (k : Int) < es.length := by omega
      obtain ⟨kd, hkd⟩ : ∃ kd, kd = es[k].kind := ⟨_, rfl⟩
      obtain ⟨nm, hnm⟩ : ∃ nm, nm = es[k].name := ⟨_, rfl⟩
      rw [← hkd] at hc0
      rw [← hnm] at hcx hns
      cases hev : evB ver ss st cu kd nm
      · have hev2 : evB ver ss st cu es[k].kind es[k].name = false := by rw [← hkd, ← hnm]; exact hev
        have hstop := hgo.out.trans (evGo_stop hlt hev2)
        obtain ⟨q1, q2, q3⟩ := er_yes HB.out hstop
        have Q1 := Lib.hid q1
        have Q2 := Lib.hid q2
        have Q3 := Lib.hid q3
        have KE : Hid (∀ wx, Below wr.heap.size wr wx → Calls Try.prog 16 #[flowV ver SA ss.length sc, runV st D cu.length d, .agg #[.int .i64 kd, .string nm]] wx (RetRun (evSt ver ss st cu kd nm) (evDone ver ss st cu kd nm) false wx)) := Lib.hid (fun wx hx => by
          have hh := sEventRun_any ver st SA D sc d ss cu kd nm wx _ _ (hst.then_ hx) (ho.strs.then_ hx) hns hl
          rw [hev] at hh
          exact hh)
        clear q1 q2 q3 hstop hev hev2 hkd hnm hgo had
        have hS : ∀ wx, Below wr.drew.heap.size wr.drew wx → (wx.cell? ⟨w.heap.size, 0, none⟩ = some (.int .i64 ver) ∧ wx.cell? ⟨w.heap.size, 1, none⟩ = some (.slice SA ss.length sc)) ∧ (wx.cell? ⟨w1.heap.size, 0, none⟩ = some (.int .i64 st) ∧ wx.cell? ⟨w1.heap.size, 1, none⟩ = some (.slice D cu.length d)) ∧ wx.cell? (ad.add (k * 2)) = some (.int .i64 kd) ∧ wx.cell? ⟨(ad.add (k * 2)).block, (ad.add (k * 2)).off + 1, none⟩ = some (.string nm) := fun wx hx =>
          have hu := Below.undrew hx
          ⟨⟨(v1.then_ hu).c0, (v1.then_ hu).c1⟩, (rx.then_ hu).cells, (hu.cell (World.block_lt_of_cell? _ _ hc0)).trans hc0, (hu.cell (World.block_lt_of_cell? _ _ hcx)).trans hcx⟩
        have HS2 := Lib.hid hS
        have p0 := Below.refl wr.drew.heap.size wr.drew
        have pA : Below wr.drew.heap.size wr.drew (wr.alloc (.cells #[.int .i64 0, .slice none 0 0] 33)).drew := below_drew ((Below.refl _ _).alloc (Nat.le_refl _) _)
        have bxA : RBox (wr.alloc (.cells #[.int .i64 0, .slice none 0 0] 33)).drew wr.heap.size (.int .i64 0) (.slice none 0 0) := (RBox.new wr _ _).drew
        have S0 := HS2.out _ p0
        have SA0 := HS2.out _ pA
        have hlow : (w.heap.size < wr.heap.size ∧ w1.heap.size < wr.heap.size) ∧ (ad.add (k * 2)).block < wr.heap.size := ⟨⟨v1.lt, rx.lt⟩, World.block_lt_of_cell? _ _ hc0⟩
        have Hlow := Lib.hid hlow
        clear hS hlow hc0 hcx
        go_upto_region 7 with fail
        go_cut [10, 11] (fun vb vo wx => CutRun wr (evSt ver ss st cu kd nm) (evDone ver ss st cu kd nm) wr.heap.size vb wx ∧ vo = .bool false)
        case first =>
          go_region_held3 (fun wx => (wx.cell? ⟨w.heap.size, 0, none⟩ = some (.int .i64 ver) ∧ wx.cell? ⟨w.heap.size, 1, none⟩ = some (.slice SA ss.length sc)) ∧ (wx.cell? ⟨w1.heap.size, 0, none⟩ = some (.int .i64 st) ∧ wx.cell? ⟨w1.heap.size, 1, none⟩ = some (.slice D cu.length d)) ∧ wx.cell? (ad.add (k * 2)) = some (.int .i64 kd) ∧ wx.cell? ⟨(ad.add (k * 2)).block, (ad.add (k * 2)).off + 1, none⟩ = some (.string nm))
            (first
              | exact Sb | exact S0 | exact SA0
              | exact And.intro (And.intro (cell_alR Sb.1.1 _) (cell_alR Sb.1.2 _)) (And.intro (And.intro (cell_alR Sb.2.1.1 _) (cell_alR Sb.2.1.2 _)) (And.intro (cell_alR Sb.2.2.1 _) (cell_alR Sb.2.2.2 _)))
              | exact And.intro (And.intro (cell_stR (blk_ne Hlow.out.1.1 (Nat.le_refl _)) (cell_stR (blk_ne Hlow.out.1.1 (Nat.le_refl _)) Sb.1.1)) (cell_stR (blk_ne Hlow.out.1.1 (Nat.le_refl _)) (cell_stR (blk_ne Hlow.out.1.1 (Nat.le_refl _)) Sb.1.2))) (And.intro (And.intro (cell_stR (blk_ne Hlow.out.1.2 (Nat.le_refl _)) (cell_stR (blk_ne Hlow.out.1.2 (Nat.le_refl _)) Sb.2.1.1)) (cell_stR (blk_ne Hlow.out.1.2 (Nat.le_refl _)) (cell_stR (blk_ne Hlow.out.1.2 (Nat.le_refl _)) Sb.2.1.2))) (And.intro (cell_stR (farb_ne Hlow.out.2 (Nat.le_refl _)) (cell_stR (farb_ne Hlow.out.2 (Nat.le_refl _)) Sb.2.2.1)) (cell_stR (farb_ne (p := ⟨(ad.add (k * 2)).block, (ad.add (k * 2)).off + 1, none⟩) Hlow.out.2 (Nat.le_refl _)) (cell_stR (farb_ne (p := ⟨(ad.add (k * 2)).block, (ad.add (k * 2)).off + 1, none⟩) Hlow.out.2 (Nat.le_refl _)) Sb.2.2.2)))))
            (first
              | (go_at_call 16; (with_reducible refine (KE.out _ (below_drew_in pA)).mono ?_); rintro e wb ⟨A7, c7, rfl, ho7, hbb⟩; have tb := bthen pA hbb; have bl := bxA.lt; have bx := bxA.then_ hbb; have bf := fun i => bx.free i; obtain ⟨bc0, bc1⟩ := bx.cells; have Sb := HS2.out _ tb)
              | (go_at_call 16; (with_reducible refine (KE.out _ (below_drew_in p0)).mono ?_); rintro e wb ⟨A7, c7, rfl, ho7, hbb⟩; have tb := bthen p0 hbb; have Sb := HS2.out _ tb))
          all_goals
            go_wp2_with fail
            go_meet
            first
              | exact ⟨cut_early (Below.undrew tb) bx (Nat.le_refl _) (Nat.le_refl _) ho7 bl, rfl⟩
              | exact ⟨cut_last (Below.undrew tb) ho7 (Nat.le_refl _) (Below.undrew tb).size, rfl⟩
        case rest =>
          obtain ⟨w6, rfl⟩ : ∃ w6 : World, w6 = wc := ⟨_, rfl⟩
          obtain ⟨⟨b, A7, c7, rfl, qb, hβ, lb, ho7, hn7, hb6⟩, rfl⟩ := hcut
          obtain ⟨x0, x1⟩ := (rx.then_ hb6).cells
          obtain ⟨t0, t1⟩ := (v2.then_ hb6).cells
          have tf := fun i => (v2.then_ hb6).free i
          have hl5 := (v2.then_ hb6).lt
          have ho5' := ho.below hb6
          have bw5 := bthen hbw hb6
          clear hb6 hbw ho7 KE
          go_wp2_with fail
          refine bodyPost_ret (v := .tuple #[.agg #[.int .i64 st, .slice D cu.length d], .int .i64 k, .bool true]) (by simp [results, Try.results27, go_sem, t0, t1]) rfl ?_
          rw [HB.out, Q1.out, Q2.out, Q3.out]
          refine ⟨D, d, rfl, ?_, (bw5.setCell (p := ⟨w.heap.size + 1, 0, none⟩) (by show w.heap.size ≤ w.heap.size + 1; omega) _).setCell (p := ⟨w.heap.size + 1, 1, none⟩) (by show w.heap.size ≤ w.heap.size + 1; omega) _⟩
          exact ((ho5'.setLow (a := ⟨w.heap.size + 1, 0, none⟩) (by show w.heap.size + 1 < w.heap.size + 2; omega) _).setLow (a := ⟨w.heap.size + 1, 1, none⟩) (by show w.heap.size + 1 < w.heap.size + 2; omega) _).base_ (by omega)
      · have hev2 : evB ver ss st cu es[k].kind es[k].name = true := by rw [← hkd, ← hnm]; exact hev
        have hstep := hgo.out.trans (evGo_step hlt hev2)
        rw [← hkd, ← hnm] at hstep
        have HS := Lib.hid hstep
        have HR := Lib.hid (ev_ok hev)
        have KE : Hid (∀ wx, Below wr.heap.size wr wx → Calls Try.prog 16 #[flowV ver SA ss.length sc, runV st D cu.length d, .agg #[.int .i64 kd, .string nm]] wx (RetRun (evSt ver ss st cu kd nm) (evDone ver ss st cu kd nm) true wx)) := Lib.hid (fun wx hx => by
          have hh := sEventRun_any ver st SA D sc d ss cu kd nm wx _ _ (hst.then_ hx) (ho.strs.then_ hx) hns hl
          rw [hev] at hh
          exact hh)
        clear hstep hev hev2 hkd hnm hgo had
        have hS : ∀ wx, Below wr.drew.heap.size wr.drew wx → (wx.cell? ⟨w.heap.size, 0, none⟩ = some (.int .i64 ver) ∧ wx.cell? ⟨w.heap.size, 1, none⟩ = some (.slice SA ss.length sc)) ∧ (wx.cell? ⟨w1.heap.size, 0, none⟩ = some (.int .i64 st) ∧ wx.cell? ⟨w1.heap.size, 1, none⟩ = some (.slice D cu.length d)) ∧ wx.cell? (ad.add (k * 2)) = some (.int .i64 kd) ∧ wx.cell? ⟨(ad.add (k * 2)).block, (ad.add (k * 2)).off + 1, none⟩ = some (.string nm) := fun wx hx =>
          have hu := Below.undrew hx
          ⟨⟨(v1.then_ hu).c0, (v1.then_ hu).c1⟩, (rx.then_ hu).cells, (hu.cell (World.block_lt_of_cell? _ _ hc0)).trans hc0, (hu.cell (World.block_lt_of_cell? _ _ hcx)).trans hcx⟩
        have HS2 := Lib.hid hS
        have p0 := Below.refl wr.drew.heap.size wr.drew
        have pA : Below wr.drew.heap.size wr.drew (wr.alloc (.cells #[.int .i64 0, .slice none 0 0] 33)).drew := below_drew ((Below.refl _ _).alloc (Nat.le_refl _) _)
        have bxA : RBox (wr.alloc (.cells #[.int .i64 0, .slice none 0 0] 33)).drew wr.heap.size (.int .i64 0) (.slice none 0 0) := (RBox.new wr _ _).drew
        have S0 := HS2.out _ p0
        have SA0 := HS2.out _ pA
        have hlow : (w.heap.size < wr.heap.size ∧ w1.heap.size < wr.heap.size) ∧ (ad.add (k * 2)).block < wr.heap.size := ⟨⟨v1.lt, rx.lt⟩, World.block_lt_of_cell? _ _ hc0⟩
        have Hlow := Lib.hid hlow
        clear hS hlow hc0 hcx
        go_upto_region 7 with fail
        go_cut [10, 11] (fun vb vo wx => CutRun wr (evSt ver ss st cu kd nm) (evDone ver ss st cu kd nm) wr.heap.size vb wx ∧ vo = .bool true)
        case first =>
          go_region_held3 (fun wx => (wx.cell? ⟨w.heap.size, 0, none⟩ = some (.int .i64 ver) ∧ wx.cell? ⟨w.heap.size, 1, none⟩ = some (.slice SA ss.length sc)) ∧ (wx.cell? ⟨w1.heap.size, 0, none⟩ = some (.int .i64 st) ∧ wx.cell? ⟨w1.heap.size, 1, none⟩ = some (.slice D cu.length d)) ∧ wx.cell? (ad.add (k * 2)) = some (.int .i64 kd) ∧ wx.cell? ⟨(ad.add (k * 2)).block, (ad.add (k * 2)).off + 1, none⟩ = some (.string nm))
            (first
              | exact Sb | exact S0 | exact SA0
              | exact And.intro (And.intro (cell_alR Sb.1.1 _) (cell_alR Sb.1.2 _)) (And.intro (And.intro (cell_alR Sb.2.1.1 _) (cell_alR Sb.2.1.2 _)) (And.intro (cell_alR Sb.2.2.1 _) (cell_alR Sb.2.2.2 _)))
              | exact And.intro (And.intro (cell_stR (blk_ne Hlow.out.1.1 (Nat.le_refl _)) (cell_stR (blk_ne Hlow.out.1.1 (Nat.le_refl _)) Sb.1.1)) (cell_stR (blk_ne Hlow.out.1.1 (Nat.le_refl _)) (cell_stR (blk_ne Hlow.out.1.1 (Nat.le_refl _)) Sb.1.2))) (And.intro (And.intro (cell_stR (blk_ne Hlow.out.1.2 (Nat.le_refl _)) (cell_stR (blk_ne Hlow.out.1.2 (Nat.le_refl _)) Sb.2.1.1)) (cell_stR (blk_ne Hlow.out.1.2 (Nat.le_refl _)) (cell_stR (blk_ne Hlow.out.1.2 (Nat.le_refl _)) Sb.2.1.2))) (And.intro (cell_stR (farb_ne Hlow.out.2 (Nat.le_refl _)) (cell_stR (farb_ne Hlow.out.2 (Nat.le_refl _)) Sb.2.2.1)) (cell_stR (farb_ne (p := ⟨(ad.add (k * 2)).block, (ad.add (k * 2)).off + 1, none⟩) Hlow.out.2 (Nat.le_refl _)) (cell_stR (farb_ne (p := ⟨(ad.add (k * 2)).block, (ad.add (k * 2)).off + 1, none⟩) Hlow.out.2 (Nat.le_refl _)) Sb.2.2.2)))))
            (first
              | (go_at_call 16; (with_reducible refine (KE.out _ (below_drew_in pA)).mono ?_); rintro e wb ⟨A7, c7, rfl, ho7, hbb⟩; have tb := bthen pA hbb; have bl := bxA.lt; have bx := bxA.then_ hbb; have bf := fun i => bx.free i; obtain ⟨bc0, bc1⟩ := bx.cells; have Sb := HS2.out _ tb)
              | (go_at_call 16; (with_reducible refine (KE.out _ (below_drew_in p0)).mono ?_); rintro e wb ⟨A7, c7, rfl, ho7, hbb⟩; have tb := bthen p0 hbb; have Sb := HS2.out _ tb))
          all_goals
            go_wp2_with fail
            go_meet
            first
              | exact ⟨cut_early (Below.undrew tb) bx (Nat.le_refl _) (Nat.le_refl _) ho7 bl, rfl⟩
              | exact ⟨cut_last (Below.undrew tb) ho7 (Nat.le_refl _) (Below.undrew tb).size, rfl⟩
        case rest =>
          obtain ⟨w6, rfl⟩ : ∃ w6 : World, w6 = wc := ⟨_, rfl⟩
          obtain ⟨⟨b, A7, c7, rfl, qb, hβ, lb, ho7, hn7, hb6⟩, rfl⟩ := hcut
          generalize evSt ver ss st cu kd nm = st2 at *
          generalize evDone ver ss st cu kd nm = cu2 at *
          have rx3 := rx.then_ hb6
          obtain ⟨x0, x1⟩ := rx3.cells
          have xf := fun i => rx3.free i
          obtain ⟨y0, y1⟩ := qb
          have hxl3 := rx3.lt
          have hne3 : ∀ q, A7 = some q → q.block ≠ w1.heap.size := fun q e => by
            subst e
            have := (own_lt ho7).1
            omega
          have ho4 := ho7.base_ (base' := w.heap.size + 2) (by omega)
          have ho6 := ((ho4.setOther (p := ⟨w1.heap.size, 0, none⟩) hne3 (.int .i64 st2)).setOther (p := ⟨w1.heap.size, 1, none⟩) hne3 (.slice A7 cu2.length c7))
          have rx6 := (rx3.set0 (.int .i64 st2)).set1 (.slice A7 cu2.length c7)
          have hb7 := (((hb.trans (hb6.mono hsz))).setCell (p := ⟨w1.heap.size, 0, none⟩) (Nat.le_refl _) (.int .i64 st2)).setCell (p := ⟨w1.heap.size, 1, none⟩) (by show w1.heap.size ≤ w1.heap.size; omega) (.slice A7 cu2.length c7)
          clear ho7 hb6 KE ho4 rx3
          go_wp2_with fail
          go_roundw
          case rel => exact ⟨k + 1, st2, A7, c7, cu2, by omega, by go_num, HS, hb7, rx6, ho6, hne3, HR⟩
          case measure => simp [intOf]; omega
    · have hke : k = es.length := by omega
      subst hke
      have hend := hgo.out.trans (evGo_end (Nat.le_refl _))
      obtain ⟨q1, q2, q3⟩ := er_yes HB.out hend
      have Q1 := Lib.hid q1
      have Q2 := Lib.hid q2
      have Q3 := Lib.hid q3
      clear q1 q2 q3 hend hgo
      have ho5' := ho
      have bw5 := hbw
      have hl5 := v2.lt
      go_wp2_with fail
      refine bodyPost_ret (v := .tuple #[.agg #[.int .i64 st, .slice D cu.length d], .int .i64 es.length, .bool true]) (by simp [results, Try.results27, go_sem, t0, t1]) rfl ?_
      rw [HB.out, Q1.out, Q2.out, Q3.out]
      refine ⟨D, d, rfl, ?_, (bw5.setCell (p := ⟨w.heap.size + 1, 0, none⟩) (by show w.heap.size ≤ w.heap.size + 1; omega) _).setCell (p := ⟨w.heap.size + 1, 1, none⟩) (by show w.heap.size ≤ w.heap.size + 1; omega) _⟩
      exact ((ho5'.setLow (a := ⟨w.heap.size + 1, 0, none⟩) (by show w.heap.size + 1 < w.heap.size + 2; omega) _).setLow (a := ⟨w.heap.size + 1, 1, none⟩) (by show w.heap.size + 1 < w.heap.size + 2; omega) _).base_ (by omega)
end Go.Proofs.Ytaelacpkagcffaa
