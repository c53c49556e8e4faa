/- Contracts of the draws of events: l91Events, DrawEventsRun. Condition: the place is small. -/
import Derived.Test.YtaelacpkagcffaaDrawEvent
import Derived.Test.YtaelacpkagcffaaAppendEv
namespace Go.Proofs.Ytaelacpkagcffaa
set_option linter.unusedVariables false
set_option maxRecDepth 100000
open Go.RowKit

theorem ownE_mv {w w' : World} {base : Nat} {A : Option Addr} {c : Nat} {es : List Ev} (h : OwnEvs w base A c es) (hk : ∀ k, base ≤ k → k < w.heap.size → some k = A.map (·.block) → w'.heap[k]? = w.heap[k]?) : OwnEvs w' base A c es :=
  ⟨row_move h.1 fun k e => hk k (h.1.lt k e).1 (h.1.lt k e).2 (by rw [← e, ownBlock_slice]), h.2⟩
theorem ownS_mv {w w' : World} {base : Nat} {A : Option Addr} {c : Nat} {xs : List ByteArray} (h : OwnStrs w base A c xs) (hk : ∀ k, base ≤ k → k < w.heap.size → some k = A.map (·.block) → w'.heap[k]? = w.heap[k]?) : OwnStrs w' base A c xs :=
  ⟨row_move h.1 fun k e => hk k (h.1.lt k e).1 (h.1.lt k e).2 (by rw [← e, ownBlock_slice]), h.2⟩
theorem ownE_lt {w : World} {base : Nat} {p : Addr} {c : Nat} {es : List Ev} (h : OwnEvs w base (some p) c es) : base ≤ p.block ∧ p.block < w.heap.size := h.1.lt p.block rfl
theorem ev_sub {ver st : Int} {ss : List St} {done : List ByteArray} {kd : Int} {nm : ByteArray} (h : evB ver ss st done kd nm = true) : ∀ x ∈ evDone ver ss st done kd nm, x ∈ names ss := run_sub (ev_ok h)
theorem ownE_l0 (w : World) (base : Nat) (hb : base ≤ w.heap.size) : OwnEvs (w.alloc (.cells #[] 41)) base (some ⟨w.heap.size, 0, none⟩) 0 [] :=
  ⟨⟨rfl, .inr ⟨w.heap.size, 0, #[], rfl, hb, heap_alloc_new w _, Nat.le_refl _, by simp [maxLen], rfl, rfl⟩⟩, by simp⟩

/-- What the draw of events knows between its statements: g the reader's block, rb the run's. -/
structure EvsSt (w : World) (B g : Nat) (A : Option Addr) (c : Nat) (zs : List Int) (ver : Int) (SA : Option Addr) (sc : Nat) (ss : List St) (rb : Nat) (wr : World) (p : Nat) (st : Int) (D : Option Addr) (d : Nat) (done : List ByteArray) (EA : Option Addr) (ec : Nat) (es : List Ev) : Prop where
  rd : Rdr wr B g A c zs p
  flow : FlowBox wr w.heap.size (.int .i64 ver) (.slice SA ss.length sc)
  run : RBox wr rb (.int .i64 st) (.slice D done.length d)
  own : OwnStrs wr (w.heap.size + 1) D d done
  out : OwnEvs wr (w.heap.size + 1) EA ec es
  neD : some rb ≠ D.map (·.block)
  neA : some rb ≠ EA.map (·.block)
  neDA : ∀ k, some k = D.map (·.block) → some k ≠ EA.map (·.block)
  grown : w.grownBy wr (some g)
  gl : g < w.heap.size
  rl : w.heap.size < rb
section
variable {w wr w' : World} {B g : Nat} {A : Option Addr} {c : Nat} {zs : List Int} {ver : Int} {SA : Option Addr} {sc : Nat} {ss : List St} {rb p p' : Nat} {st : Int} {D : Option Addr} {d : Nat} {done : List ByteArray} {EA : Option Addr} {ec : Nat} {es : List Ev}
theorem EvsSt.after (s : EvsSt w B g A c zs ver SA sc ss rb wr p st D d done EA ec es) (hr : Rdr w' B g A c zs p') (hg : wr.grownBy w' (some g)) : EvsSt w B g A c zs ver SA sc ss rb w' p' st D d done EA ec es :=
  have h1 := s.gl
  ⟨hr, s.flow.keepG hg (by omega), s.run.keep_ hg (by have := s.rl; omega), ownS_mv s.own fun k h2 h3 _ => hg.block k h3 (fun e => by injection e with e; omega), ownE_mv s.out fun k h2 h3 _ => hg.block k h3 (fun e => by injection e with e; omega),
    s.neD, s.neA, s.neDA, grown_trans s.grown hg, h1, s.rl⟩
theorem EvsSt.below_ (s : EvsSt w B g A c zs ver SA sc ss rb wr p st D d done EA ec es) (hb : Below wr.heap.size wr w') : EvsSt w B g A c zs ver SA sc ss rb w' p st D d done EA ec es := s.after (s.rd.below hb s.rd.lt) (below_grown hb)
theorem EvsSt.alloc (s : EvsSt w B g A c zs ver SA sc ss rb wr p st D d done EA ec es) (o : Obj) : EvsSt w B g A c zs ver SA sc ss rb (wr.alloc o) p st D d done EA ec es := s.after (s.rd.alloc o) (World.grownBy_alloc _ _ _)
/-- The run's box is filled anew. -/
theorem EvsSt.turn (s : EvsSt w B g A c zs ver SA sc ss rb wr p st D d done EA ec es) {st' : Int} {D' : Option Addr} {d' : Nat} {done' : List ByteArray} (ho : OwnStrs wr (w.heap.size + 1) D' d' done') (hne : some rb ≠ D'.map (·.block)) (hda : ∀ k, some k = D'.map (·.block) → some k ≠ EA.map (·.block)) :
    EvsSt w B g A c zs ver SA sc ss rb ((wr.setCell ⟨rb, 0, none⟩ (.int .i64 st')).setCell ⟨rb, 1, none⟩ (.slice D' done'.length d')) p st' D' d' done' EA ec es := by
  have h1 := s.gl
  have h2 := s.rl
  have hset : ∀ k, k ≠ rb → ((wr.setCell ⟨rb, 0, none⟩ (.int .i64 st')).setCell ⟨rb, 1, none⟩ (.slice D' done'.length d')).heap[k]? = wr.heap[k]? := fun k hk => (Below.heap_setCell _ _ _ _ hk).trans (Below.heap_setCell _ _ _ _ hk)
  refine ⟨(s.rd.far (q := ⟨rb, 0, none⟩) (by show g < rb; omega) _).far (q := ⟨rb, 1, none⟩) (by show g < rb; omega) _, (hset _ (by omega)).trans s.flow, (s.run.set0 _).set1 _, ?_, ?_, hne, s.neA, hda, grown_set (q := ⟨rb, 1, none⟩) (grown_set (q := ⟨rb, 0, none⟩) s.grown (by show w.heap.size ≤ rb; omega) _) (by show w.heap.size ≤ rb; omega) _, h1, h2⟩
  · exact ownS_mv ho fun k _ _ e => hset k (fun e2 => hne (by rw [← e2]; exact e))
  · exact ownE_mv s.out fun k _ _ e => hset k (fun e2 => s.neA (by rw [← e2]; exact e))
/-- An event more in the list. -/
theorem EvsSt.push (s : EvsSt w B g A c zs ver SA sc ss rb wr p st D d done EA ec es) {A3 : Option Addr} {c3 : Nat} {x : Ev} (ha : AppendedE wr w' (w.heap.size + 1) EA A3 c3 es x) :
    EvsSt w B g A c zs ver SA sc ss rb w' p st D d done A3 c3 (es ++ [x]) := by
  have h1 := s.gl
  have h2 := s.rl
  have hrl := s.run.lt
  have hlowA : ∀ k, some k = EA.map (·.block) → w.heap.size + 1 ≤ k ∧ k < wr.heap.size := fun k e => by
    cases hE : EA with
    | none => rw [hE] at e; cases e
    | some q =>
      have ho := s.out
      rw [hE] at ho e
      injection e with e
      have := ownE_lt ho
      have e2 : k = q.block := e
      omega
  have hkeep : ∀ k, k < wr.heap.size → some k ≠ EA.map (·.block) → w'.heap[k]? = wr.heap[k]? := fun k hk hne => ha.grown.block k hk hne
  have hnl : ∀ k, k < w.heap.size + 1 → some k ≠ EA.map (·.block) := fun k hk e => by have := hlowA k e; omega
  have hnewA : ∀ k, k < wr.heap.size → some k ≠ EA.map (·.block) → some k ≠ A3.map (·.block) := fun k hk hne e => by
    rcases ha.at_ with hat | hat
    · rw [hat] at e; exact hne e
    · rw [hat] at e; injection e with e; omega
  have hDlt : ∀ k, some k = D.map (·.block) → k < wr.heap.size := fun k e => by
    cases hD : D with
    | none => rw [hD] at e; cases e
    | some q =>
      have ho := s.own
      rw [hD] at ho e
      injection e with e
      have e2 : k = q.block := e
      have := (own_lt ho).2
      omega
  have hs1 := s.grown.size
  have hs2 := ha.grown.size
  refine ⟨s.rd.keep fun k hk => hkeep k (by have := s.rd.lt; omega) (hnl k (by omega)), (hkeep _ s.flow.lt (hnl _ (by omega))).trans s.flow, (hkeep _ hrl s.neA).trans s.run, ownS_mv s.own fun k _ h3 e => hkeep k h3 (s.neDA k e), ha.own, s.neD, hnewA rb hrl s.neA,
    fun k e => hnewA k (hDlt k e) (s.neDA k e), ?_, h1, h2⟩
  exact ⟨ha.grown.os.trans s.grown.os, ha.grown.tape.trans s.grown.tape, ha.grown.output.trans s.grown.output, by omega, fun k hk hne => (hkeep k (by omega) (hnl k (by omega))).trans (s.grown.block k hk hne)⟩
theorem EvsSt.fresh (s : EvsSt w B g A c zs ver SA sc ss rb wr p st D d done EA ec es) {base : Nat} {D' : Option Addr} {d' : Nat} {xs : List ByteArray} (ho : OwnStrs w' base D' d' xs) (hb : wr.heap.size ≤ base) :
    some rb ≠ D'.map (·.block) ∧ ∀ k, some k = D'.map (·.block) → some k ≠ EA.map (·.block) := by
  have hrl := s.run.lt
  have hge : ∀ k, some k = D'.map (·.block) → wr.heap.size ≤ k := fun k e => by
    cases hD : D' with
    | none => rw [hD] at e; cases e
    | some q =>
      rw [hD] at ho e
      injection e with e
      have e2 : k = q.block := e
      have := (own_lt ho).1
      omega
  refine ⟨fun e => by have := hge rb e; omega, fun k e e2 => ?_⟩
  have h1 := hge k e
  cases hE : EA with
  | none => rw [hE] at e2; cases e2
  | some q =>
    have ho2 := s.out
    rw [hE] at ho2 e2
    injection e2 with e2
    have e3 : k = q.block := e2
    have := (ownE_lt ho2).2
    omega
end
/-- Events are drawn. -/
def DrawnEvsL (B g : Nat) (A : Option Addr) (c : Nat) (zs : List Int) (w : World) (e : Ending) (w' : World) : Prop :=
  ∃ (EA : Option Addr) (ec : Nat) (es : List Ev) (p' : Nat), e = .returned (.slice EA es.length ec) ∧ OwnEvs w' w.heap.size EA ec es ∧ es.length ≤ 21 ∧ Rdr w' B g A c zs p' ∧ w.grownBy w' (some g)

set_option maxHeartbeats 16000000 in
theorem l91Events_any (B g : Nat) (A : Option Addr) (c : Nat) (zs : List Int) (p : Nat) (ver : Int) (SA : Option Addr) (sc : Nat) (ss : List St) (w : World) (h : Rdr w B g A c zs p) (hp : p ≤ 100000) (hf : StsG w g SA sc ss) (h1 : 1 ≤ ss.length) (h6 : ss.length ≤ 6) (hsm : Hid (∀ s ∈ ss, s.name.size ≤ 6)) :
    Calls Try.prog 80 #[.pointer (some ⟨g, 0, none⟩), flowV ver SA ss.length sc] w (DrawnEvsL B g A c zs w) := by
  have hgl := h.lt
  have y1 : FlowBox ((w.alloc (.cells #[.int .i64 ver, .slice SA ss.length sc] 38)).alloc (.cells #[] 41)) w.heap.size (.int .i64 ver) (.slice SA ss.length sc) := (Below.heap_alloc _ _ _ (by simp)).trans (FlowBox.new w _ _)
  have b0 : Below w.heap.size w ((w.alloc (.cells #[.int .i64 ver, .slice SA ss.length sc] 38)).alloc (.cells #[] 41)) := ((Below.refl _ _).alloc (Nat.le_refl _) _).alloc (by simp) _
  have hs1 : (w.alloc (.cells #[.int .i64 ver, .slice SA ss.length sc] 38)).heap.size = w.heap.size + 1 := by simp
  have oz := ownE_l0 (w.alloc (.cells #[.int .i64 ver, .slice SA ss.length sc] 38)) (w.heap.size + 1) (by rw [hs1]; omega)
  rw [hs1] at oz
  have hs2 : ((w.alloc (.cells #[.int .i64 ver, .slice SA ss.length sc] 38)).alloc (.cells #[] 41)).heap.size = w.heap.size + 2 := by simp
  go_enter Try.func80, Try.ntmps80
  go_wp2_with fail
  (with_reducible refine (sRunNew_any ver SA sc ss _ _ (hf.here.then_ b0) (by omega)).mono ?_)
  rintro e w1 ⟨D0, d0, rfl, ho1, hb1⟩
  have b1 := bthen b0 hb1
  have z1 : FlowBox w1 w.heap.size (.int .i64 ver) (.slice SA ss.length sc) := (hb1.block _ y1.lt).trans y1
  have o1 := oz.below hb1
  have hz1 : w.heap.size + 2 ≤ w1.heap.size := by have := hb1.size; omega
  rw [hs2] at ho1
  have hD0 : ∀ k, some k = D0.map (·.block) → w.heap.size + 2 ≤ k ∧ k < w1.heap.size := fun k e => by
    cases hD : D0 with
    | none => rw [hD] at e; cases e
    | some q =>
      rw [hD] at ho1 e
      injection e with e
      have e2 : k = q.block := e
      have := own_lt ho1
      omega
  have S1 : EvsSt w B g A c zs ver SA sc ss w1.heap.size (w1.alloc (.cells #[.int .i64 0, .slice D0 noNames.length d0] 33)) p 0 D0 d0 noNames (some ⟨w.heap.size + 1, 0, none⟩) 0 [] :=
    ⟨(h.below b1 hgl).alloc _, (Below.heap_alloc _ _ _ z1.lt).trans z1, RBox.new _ _ _, (ho1.base_ (by omega)).alloc _, o1.alloc _, fun e => by have := hD0 _ e; omega, fun e => by injection e with e; simp at e; omega,
      fun k e e2 => by
        have := hD0 k e
        injection e2 with e2
        have e3 : k = w.heap.size + 1 := e2
        omega, grown_trans (below_grown b1) (World.grownBy_alloc _ _ _), hgl, by omega⟩
  clear y1 b0 oz hs1 hs2 hb1 ho1 b1 z1 o1 hD0
  go_wp2_with fail
  (with_reducible refine (pick_any B g A c zs p _ _ S1.rd (by omega)).mono ?_)
  rintro e w2 ⟨v8, rfl, hv0, hv1, hr2, hg2⟩
  have S2 := S1.after hr2 hg2
  clear S1 hr2 hg2
  go_wp2_with fail
  (with_reducible refine (pick_any B g A c zs (p + 1) _ _ S2.rd (by omega)).mono ?_)
  rintro e w3 ⟨v24, rfl, hu0, hu1, hr3, hg3⟩
  have S3 := S2.after hr3 hg3
  clear S2 hr3 hg3
  by_cases hv : v24 = 0
  case' pos =>
    subst hv
    go_wp2_with fail
    (with_reducible refine (pick_any B g A c zs (p + 2) _ _ S3.rd (by omega)).mono ?_)
    rintro e w4 ⟨v2, rfl, ht0, ht1, hr4, hg4⟩
    have hw : IntKind.i64.wrap (20 + v2) = 20 + v2 := IntWalk.i64_in _ (by omega)
    obtain ⟨p4, hp4, S4⟩ : ∃ p4, p4 ≤ p + 3 ∧ EvsSt w B g A c zs ver SA sc ss w1.heap.size w4 p4 0 D0 d0 noNames (some ⟨w.heap.size + 1, 0, none⟩) 0 [] := ⟨_, by omega, S3.after hr4 hg4⟩
    clear S3 hr4 hg4
    go_wp2_with fail
    have hN : ∃ N : Int, N = 20 + v2 ∧ 0 ≤ N ∧ N ≤ 21 := ⟨_, rfl, by omega, by omega⟩
    obtain ⟨N, hNe, hN0, hN1⟩ := hN
    rw [← hNe]
    clear hNe hw ht0 ht1
  case' neg =>
    have e24 : (v24 == 0) = false := beq_eq_false_iff_ne.2 hv
    clear hv
    obtain ⟨w4, rfl⟩ : ∃ w4 : World, w4 = w3 := ⟨_, rfl⟩
    obtain ⟨p4, hp4, S4⟩ : ∃ p4, p4 ≤ p + 3 ∧ EvsSt w B g A c zs ver SA sc ss w1.heap.size w4 p4 0 D0 d0 noNames (some ⟨w.heap.size + 1, 0, none⟩) 0 [] := ⟨_, by omega, S3⟩
    clear S3
    go_wp2_with fail
    obtain ⟨N, rfl⟩ : ∃ N : Int, N = v8 := ⟨_, rfl⟩
    have hN0 : 0 ≤ N := hv0
    have hN1 : N ≤ 21 := by omega
  all_goals
    go_loopw [5, 9] (fun o i wr => ∃ (k q : Nat) (st : Int) (D : Option Addr) (d : Nat) (done : List ByteArray) (EA : Option Addr) (ec : Nat) (es : List Ev), (k : Int) ≤ N ∧ i = .int .i64 k ∧ o = .slice EA es.length ec ∧ es.length ≤ k ∧ q ≤ p + 3 + 12 * k ∧ EvsSt w B g A c zs ver SA sc ss w1.heap.size wr q st D d done EA ec es ∧ (∀ x ∈ done, x ∈ names ss)) (fun _ i _ => 21 - (intOf i).toNat)
    case atStart => exact ⟨0, p4, 0, D0, d0, noNames, some ⟨w.heap.size + 1, 0, none⟩, 0, [], by omega, rfl, rfl, by simp, by omega, S4, by simp [noNames]⟩
    case round =>
      clear S4
      obtain ⟨k, q, st, D, d, done, EA, ec, es, hk, rfl, rfl, hel, hq, S, hsub0⟩ := hrel
      have hsub := Lib.hid hsub0
      clear hsub0
      by_cases hlt : (k : Int) < N
      · have hltd : decide ((k : Int) < N) = true := decide_eq_true hlt
        obtain ⟨f0, f1⟩ := S.flow.cells
        obtain ⟨r0, r1⟩ := S.run.cells
        have hgr := S.grown
        go_wp2_with fail
        (with_reducible refine (l91Event_any B g A c zs q ver SA sc ss st D d done wr S.rd (by omega) (hf.go hgr) (StrsG.of_ S.own (by omega)) h1 h6 hsm (Lib.hid (fun x hx => by
          obtain ⟨s, hs, rfl⟩ := List.mem_map.1 (hsub.out x hx)
          exact hsm.out s hs))).mono ?_)
        rintro e w5 ⟨kd, nm, q5, rfl, hnm, hq5, hr5, hg5⟩
        have hgw5 : g < w5.heap.size := by have := hgr.size; have := hg5.size; omega
        have hrw5 : w1.heap.size < w5.heap.size := (S.after hr5 hg5).run.lt
        have S5 := (S.after hr5 hg5).alloc (.cells #[.int .i64 kd, .string nm] 41)
        have ev5 := EBox.new w5 (.int .i64 kd) (.string nm)
        have hnm9 : nm.size ≤ 9223372036854775807 := by omega
        have hz5 : w5.heap.size < (w5.alloc (.cells #[.int .i64 kd, .string nm] 41)).heap.size := by simp
        have hst5 := hf.to S5.grown
        clear f0 f1 r0 r1 S hr5 hg5 hgr
        obtain ⟨f0, f1⟩ := S5.flow.cells
        obtain ⟨r0, r1⟩ := S5.run.cells
        have hfl := S5.flow.lt
        have hrl5 := S5.run.lt
        have hgl5 := S5.rd.lt
        cases hev : evB ver ss st done kd nm
        · have KE : Hid (Calls Try.prog 16 #[flowV ver SA ss.length sc, runV st D done.length d, .agg #[.int .i64 kd, .string nm]] (w5.alloc (.cells #[.int .i64 kd, .string nm] 41)) (RetRun (evSt ver ss st done kd nm) (evDone ver ss st done kd nm) false (w5.alloc (.cells #[.int .i64 kd, .string nm] 41)))) := Lib.hid (by
            have hh := sEventRun_any ver st SA D sc d ss done kd nm _ _ _ hst5 S5.own.strs hnm9 (by omega)
            rw [hev] at hh
            exact hh)
          clear hev hst5
          go_wp2_with fail
          (with_reducible refine KE.out.mono ?_)
          rintro e w6 ⟨A6, c6, rfl, ho6, hb6⟩
          have S6 := (S5.below_ hb6).alloc (.cells #[.int .i64 (evSt ver ss st done kd nm), .slice A6 (evDone ver ss st done kd nm).length c6] 33)
          have ev6 := (ev5.then_ hb6).alloc (.cells #[.int .i64 (evSt ver ss st done kd nm), .slice A6 (evDone ver ss st done kd nm).length c6] 33)
          clear KE f0 f1 r0 r1 S5 ho6 ev5 hb6 hfl hrl5 hgl5 hz5
          go_wp2_with fail
          (with_reducible refine (pick_any B g A c zs q5 _ _ S6.rd (by omega)).mono ?_)
          rintro e w7 ⟨v7, rfl, hv70, hv71, hr7, hg7⟩
          have S7 := S6.after hr7 hg7
          have ev7 := ev6.keep_ hg7 (by omega)
          by_cases hv7 : v7 = 0
          · subst hv7
            obtain ⟨c0, c1⟩ := ev7.cells
            have S8 := S7.alloc (.cells #[.int .i64 kd, .string nm] 41)
            have hq8 := Cell2.new w7 (.int .i64 kd) (.string nm) 41
            have hz8 := S7.grown.size
            go_wp2_with (at_builtin; (refine wpList_append_event _ rfl (.tmp 51) (.tmp 53) rfl (w.heap.size + 1) EA ec es rfl S8.out ⟨w7.heap.size, 0, none⟩ 1 ⟨kd, nm⟩ rfl hq8.c0 hq8.c1 hnm9 (by omega) (by simp; omega) ?_); intro A9 c9 w9 hap; have S9 := S8.push hap)
            go_roundw
            case rel => exact ⟨k + 1, q5 + 1, st, D, d, done, A9, c9, es ++ [⟨kd, nm⟩], by omega, by go_num, by simp, by simp; omega, by omega, S9, hsub.out⟩
            case measure => simp [intOf]; omega
          · have e7 : (v7 == 0) = false := beq_eq_false_iff_ne.2 hv7
            clear hv7
            go_wp2_with fail
            go_roundw
            case rel => exact ⟨k + 1, q5 + 1, st, D, d, done, EA, ec, es, by omega, by go_num, rfl, by omega, by omega, S7, hsub.out⟩
            case measure => simp [intOf]; omega
        · have KE : Hid (Calls Try.prog 16 #[flowV ver SA ss.length sc, runV st D done.length d, .agg #[.int .i64 kd, .string nm]] (w5.alloc (.cells #[.int .i64 kd, .string nm] 41)) (RetRun (evSt ver ss st done kd nm) (evDone ver ss st done kd nm) true (w5.alloc (.cells #[.int .i64 kd, .string nm] 41)))) := Lib.hid (by
            have hh := sEventRun_any ver st SA D sc d ss done kd nm _ _ _ hst5 S5.own.strs hnm9 (by omega)
            rw [hev] at hh
            exact hh)
          have Hsu := Lib.hid (ev_sub hev)
          clear hev hst5
          generalize evSt ver ss st done kd nm = st2 at *
          generalize evDone ver ss st done kd nm = dn2 at *
          go_wp2_with fail
          (with_reducible refine KE.out.mono ?_)
          rintro e w6 ⟨A6, c6, rfl, ho6, hb6⟩
          have S6 := S5.below_ hb6
          have ev6 := ev5.then_ hb6
          have hfr := S5.fresh ho6 (Nat.le_refl _)
          have ho6' := ho6.base_ (base' := w.heap.size + 1) (by have := S5.grown.size; have := S5.flow.lt; omega)
          have hrl6 := S6.run.lt
          have hel6 := ev6.lt
          have hner : w1.heap.size ≠ w5.heap.size := by omega
          have T6 := (S6.turn (st' := st2) ho6' hfr.1 hfr.2).alloc (.cells #[.int .i64 st2, .slice A6 dn2.length c6] 33)
          have ev7 : EBox _ _ _ _ := ((ev6.far (p := ⟨w1.heap.size, 0, none⟩) (u := .int .i64 st2) (Ne.symm hner)).far (p := ⟨w1.heap.size, 1, none⟩) (u := .slice A6 dn2.length c6) (Ne.symm hner)).alloc (.cells #[.int .i64 st2, .slice A6 dn2.length c6] 33)
          clear KE f0 f1 r0 r1 S5 ho6 ev5 hb6 hfl hrl5 hgl5 hz5 ho6'
          obtain ⟨r0, r1⟩ := S6.run.cells
          have rf := fun i => S6.run.free i
          have hW : (((w6.setCell ⟨w1.heap.size, 0, none⟩ (.int .i64 st2)).setCell ⟨w1.heap.size, 1, none⟩ (.slice A6 dn2.length c6)).alloc (.cells #[.int .i64 st2, .slice A6 dn2.length c6] 33)).heap.size = w6.heap.size + 1 := by simp
          have S8 := T6.alloc (.cells #[.int .i64 kd, .string nm] 41)
          have hq8 := Cell2.new (((w6.setCell ⟨w1.heap.size, 0, none⟩ (.int .i64 st2)).setCell ⟨w1.heap.size, 1, none⟩ (.slice A6 dn2.length c6)).alloc (.cells #[.int .i64 st2, .slice A6 dn2.length c6] 33)) (.int .i64 kd) (.string nm) 41
          rw [hW] at hq8
          have hz8 := S6.grown.size
          obtain ⟨d0', d1'⟩ := ev6.cells
          obtain ⟨c0, c1⟩ := ev7.cells
          clear T6 ev7 ev6 hW
          go_wp2_with (at_builtin; (refine wpList_append_event _ rfl (.tmp 51) (.tmp 53) rfl (w.heap.size + 1) EA ec es rfl S8.out ⟨w6.heap.size + 1, 0, none⟩ 1 ⟨kd, nm⟩ rfl hq8.c0 hq8.c1 hnm9 (by omega) (by simp; omega) ?_); intro A9 c9 w9 hap; have S9 := S8.push hap)
          go_roundw
          case rel => exact ⟨k + 1, q5, st2, A6, c6, dn2, A9, c9, es ++ [⟨kd, nm⟩], by omega, by go_num, by simp, by simp; omega, by omega, S9, Hsu.out⟩
          case measure => simp [intOf]; omega
      · have hltd : decide ((k : Int) < N) = false := decide_eq_false hlt
        go_wp2_with fail
        go_ret
        exact ⟨EA, ec, es, q, rfl, S.out.base_ (by omega), by omega, S.rd, S.grown⟩

/-- A flow and events, drawn from a code. -/
def DrawnEvsTop (w : World) (e : Ending) (w' : World) : Prop :=
  ∃ (ver : Int) (SA : Option Addr) (sc : Nat) (ss : List St) (EA : Option Addr) (ec : Nat) (es : List Ev), e = .returned (.tuple #[.agg #[.int .i64 ver, .slice SA ss.length sc], .slice EA es.length ec]) ∧ es.length ≤ 21 ∧ Evs w' w'.heap.size EA ec es ∧ BothTop w w' SA sc ss none 0 [] ∧ Below w.heap.size w w'
structure TopMidE (w wr : World) (SA : Option Addr) (sc : Nat) (ss : List St) (EA : Option Addr) (ec : Nat) (es : List Ev) : Prop where
  mid : TopMid w wr SA sc ss none 0 []
  out : OwnEvs wr (w.heap.size + 2) EA ec es
theorem TopMidE.set0 {w wr : World} {SA : Option Addr} {sc : Nat} {ss : List St} {EA : Option Addr} {ec : Nat} {es : List Ev} (m : TopMidE w wr SA sc ss EA ec es) (j : Nat) (u : Value) : TopMidE w (wr.setCell ⟨w.heap.size, j, none⟩ u) SA sc ss EA ec es :=
  ⟨m.mid.set0 j u, ⟨ownsRow_setCell_below m.out.1 (by show w.heap.size < w.heap.size + 2; omega) u, m.out.2⟩⟩

set_option maxHeartbeats 4000000 in
theorem drawEventsRun_any (A : Option Addr) (c : Nat) (zs : List Int) (w : World) (h : Byts w w.heap.size A c zs) :
    Calls Try.prog 45 #[.slice A zs.length c] w (DrawnEvsTop w) := by
  have y1 : FlowBox (w.alloc (.cells #[.int .i64 0, .slice none 0 0] 38)) w.heap.size (.int .i64 0) (.slice none 0 0) := FlowBox.new w _ _
  have b0 : Below w.heap.size w (w.alloc (.cells #[.int .i64 0, .slice none 0 0] 38)) := (Below.refl _ _).alloc (Nat.le_refl _) _
  have hs0 : (w.alloc (.cells #[.int .i64 0, .slice none 0 0] 38)).heap.size = w.heap.size + 1 := by simp
  go_enter Try.func45, Try.ntmps45
  go_wp2_with fail
  (with_reducible refine (open_any w.heap.size A c zs _ (h.alloc (Nat.le_refl _) _) (by simp)).mono ?_)
  rintro e w1 ⟨zs, rfl, hr1, hb1, hz1⟩
  have z1 : FlowBox w1 w.heap.size (.int .i64 0) (.slice none 0 0) := (hb1.block _ y1.lt).trans y1
  have b1 := bthen b0 hb1
  rw [hs0] at hr1 hz1
  have hgl := hr1.lt
  clear y1 hb1 b0 hs0
  go_wp2_with fail
  (with_reducible refine (l91Flow_any w.heap.size (w.heap.size + 1) A c zs 0 w1 hr1 (by omega)).mono ?_)
  rintro e w2 ⟨ver, SA, sc, ss, p2, rfl, ho2, h1, h6, hsm, hp2, hr2, hg2⟩
  have z2 := z1.keepG hg2 (by omega)
  have hz2 := hg2.size
  have bw2 : Below w.heap.size w w2 := b1.trans (grown_below hg2 (by omega) (by omega))
  clear z1 b1 hr1 hg2
  have hzd : w2.heap.size ≤ ((w2.alloc (.cells #[.int .i64 ver, .slice SA ss.length sc] 38)).drew).heap.size := by show w2.heap.size ≤ (w2.alloc _).heap.size; simp
  have KA := Lib.hid (l91Events_any w.heap.size (w.heap.size + 1) A c zs p2 ver SA sc ss (w2.alloc (.cells #[.int .i64 ver, .slice SA ss.length sc] 38)).drew ((hr2.alloc _).keep fun _ _ => rfl) (by omega) (StsG.of_ ((ho2.alloc (.cells #[.int .i64 ver, .slice SA ss.length sc] 38)).drew) (by omega) (by omega)) h1 h6 (Lib.hid (fun s hs => (hsm s hs).1.2)))
  have bx : FlowBox (w2.alloc (.cells #[.int .i64 ver, .slice SA ss.length sc] 38)).drew w2.heap.size (.int .i64 ver) (.slice SA ss.length sc) := FlowBox.new w2 _ _
  have v1 : FlowBox (w2.alloc (.cells #[.int .i64 ver, .slice SA ss.length sc] 38)).drew w.heap.size (.int .i64 0) (.slice none 0 0) := (Below.heap_alloc _ _ _ z2.lt).trans z2
  have bd : Below w.heap.size w (w2.alloc (.cells #[.int .i64 ver, .slice SA ss.length sc] 38)).drew := (bw2.alloc (by omega) _).drew
  have od := (ho2.alloc (.cells #[.int .i64 ver, .slice SA ss.length sc] 38)).drew
  have S0 := bx.cells
  have hne0 : ∀ i j, (⟨w.heap.size, i, none⟩ : Addr) ≠ ⟨w2.heap.size, j, none⟩ := fun i j e => by injection e with e; omega
  have Hne0 := Lib.hid hne0
  clear hne0
  go_wp2_with fail
  go_region_held3 (fun wx => wx.cell? ⟨w2.heap.size, 0, none⟩ = some (.int .i64 ver) ∧ wx.cell? ⟨w2.heap.size, 1, none⟩ = some (.slice SA ss.length sc))
    (first | exact S3 | exact S0 | exact And.intro (cell_st (Hne0.out _ _) (cell_st (Hne0.out _ _) S3.1)) (cell_st (Hne0.out _ _) (cell_st (Hne0.out _ _) S3.2)))
    ((go_at_call 80; (with_reducible refine KA.out.mono ?_); rintro e w3 ⟨EA, ec, es, p3, rfl, hoe, hel, hr3, hg3⟩; have u1 := v1.keepG hg3 (by omega); have S3 := (bx.keepG hg3 (by omega)).cells; obtain ⟨a0, a1⟩ := u1.cells; have af := fun i => u1.free i))
  have hm : TopMidE w w3 SA sc ss EA ec es := ⟨⟨(od.grown hg3 (by omega) (by omega)).base_ (by omega) (by omega), OwnStrs.nil_ _ _, bd.trans (grown_below hg3 (by omega) (by omega))⟩, hoe.base_ (by omega)⟩
  have Hsm := Lib.hid hsm
  clear hsm ho2 hr2 KA hg3 hr3 od bd
  all_goals
    have hF : TopMidE w ((w3.setCell ⟨w.heap.size, 0, none⟩ (.int .i64 ver)).setCell ⟨w.heap.size, 1, none⟩ (.slice SA ss.length sc)) SA sc ss EA ec es := (hm.set0 _ _).set0 _ _
    go_wp2_with fail
    refine bodyPost_ret (v := .tuple #[.agg #[.int .i64 ver, .slice SA ss.length sc], .slice EA es.length ec]) (by simp [results, Try.results45, go_sem, a0, a1]) rfl ?_
    exact ⟨ver, SA, sc, ss, EA, ec, es, rfl, hel, hF.out.evs, TopMid.fin hF.mid h1 h6 Hsm.out (by simp) (by simp)⟩
end Go.Proofs.Ytaelacpkagcffaa
