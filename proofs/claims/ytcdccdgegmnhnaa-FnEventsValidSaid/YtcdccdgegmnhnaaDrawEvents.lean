/- Contract of the draw of events: DrawEventsValid. No condition. -/
import Derived.Test.YtcdccdgegmnhnaaDrawLists
import Derived.Test.YtcdccdgegmnhnaaEvAppend
import Derived.Deep.DeepCutAuto
import Derived.Deep.RegionWith
namespace Go.Proofs.Ytcdccdgegmnhnaa
set_option linter.unusedVariables false
set_option maxRecDepth 100000
open Go.RowKit

theorem ownE_grown {w w' : World} {base g : Nat} {A : Option Addr} {c : Nat} {xs : List Ev} (h : OwnEvs w base A c xs) (hg : w.grownBy w' (some g)) (hlt : g < base) : OwnEvs w' base A c xs :=
  ⟨h.1.kept hg (by
    cases hA : A with
    | none => exact .inl rfl
    | some a =>
      right
      intro e
      have := h.1.lt a.block (by rw [hA]; rfl)
      have e' : some a.block = some g := e
      injection e' with e'
      omega), h.2⟩

/-- What the draw of events knows between its statements: the reader, the list, the frame. -/
structure EvState (w : World) (A : Option Addr) (c : Nat) (zs : List Int) (wr : World) (A' : Option Addr) (c' : Nat) (es : List Ev) (p : Nat) : Prop where
  rd : Rdr wr w.heap.size w.heap.size A c zs p
  own : OwnEvs wr (w.heap.size + 1) A' c' es
  low : Below w.heap.size w wr
  size : w.heap.size < wr.heap.size
  lens : ∀ x ∈ es, x.name.size ≤ 6

theorem EvState.after {w : World} {A : Option Addr} {c : Nat} {zs : List Int} {wr w' : World} {A' : Option Addr} {c' : Nat} {es : List Ev} {p p' : Nat} (st : EvState w A c zs wr A' c' es p)
    (hr : Rdr w' w.heap.size w.heap.size A c zs p') (hg : wr.grownBy w' (some w.heap.size)) : EvState w A c zs w' A' c' es p' :=
  ⟨hr, ownE_grown st.own hg (Nat.lt_succ_self _), st.low.trans (grown_below hg (Nat.le_refl _) st.low.size), by have := st.size; have := hg.size; omega, st.lens⟩

theorem grown_facts {W W' : World} {g : Nat} (hg : W.grownBy W' (some g)) (hlt : g < W.heap.size) :
    (∀ b o, b < W.heap.size → ¬ b = g → W'.cell? ⟨b, o, none⟩ = W.cell? ⟨b, o, none⟩) ∧ (∀ b o, b < W.heap.size → ¬ b = g → W'.frozen? ⟨b, o, none⟩ = W.frozen? ⟨b, o, none⟩) ∧ ¬ W'.heap.size = g :=
  ⟨fun b o hb hne => World.cell?_of_block (w := W) (a := ⟨b, o, none⟩) (hg.block b hb (fun e => hne (by injection e))),
   fun b o hb hne => World.frozen?_of_block (w := W) (a := ⟨b, o, none⟩) (hg.block b hb (fun e => hne (by injection e))),
   fun e => by have := hg.size; omega⟩

/-- pick, as a region that draws its order wants it told. -/
def PickR (B g : Nat) (A : Option Addr) (c : Nat) (zs : List Int) (p : Nat) (n : Nat) (W : World) (e : Ending) (W' : World) : Prop :=
  ∃ q : Nat, e = .returned (.int .i64 q) ∧ q < n ∧ Rdr W' B g A c zs (p + 1) ∧ W.grownBy W' (some g) ∧
    (∀ b o, b < W.heap.size → ¬ b = g → W'.cell? ⟨b, o, none⟩ = W.cell? ⟨b, o, none⟩) ∧ (∀ b o, b < W.heap.size → ¬ b = g → W'.frozen? ⟨b, o, none⟩ = W.frozen? ⟨b, o, none⟩) ∧ ¬ W'.heap.size = g
theorem pickR_any (B g : Nat) (A : Option Addr) (c : Nat) (zs : List Int) (p : Nat) (n : Nat) (W : World) (h : Rdr W B g A c zs p) (hp : p ≤ 1000000) (hn : 0 < n) :
    Calls Try.prog 46 #[.pointer (some ⟨g, 0, none⟩), .int .i64 n] W (PickR B g A c zs p n W) := by
  refine (pick_any B g A c zs p _ W h hp).mono ?_
  rintro e w1 ⟨v, rfl, hv0, hv1, hr1, hg1⟩
  obtain ⟨k, rfl⟩ := Int.eq_ofNat_of_zero_le hv0
  exact ⟨k, rfl, by omega, hr1, hg1, grown_facts hg1 h.lt⟩
theorem pickR3_any (B g : Nat) (A : Option Addr) (c : Nat) (zs : List Int) (p : Nat) (W : World) (h : Rdr W B g A c zs p) (hp : p ≤ 1000000) :
    Calls Try.prog 46 #[.pointer (some ⟨g, 0, none⟩), .int .i64 3] W (PickR B g A c zs p 3 W) := pickR_any B g A c zs p 3 W h hp (by omega)
def NameR (B g : Nat) (A : Option Addr) (c : Nat) (zs : List Int) (W : World) (e : Ending) (W' : World) : Prop :=
  ∃ (s : ByteArray) (p' : Nat), e = .returned (.string s) ∧ s.size ≤ 6 ∧ Rdr W' B g A c zs p' ∧ W.grownBy W' (some g) ∧
    (∀ b o, b < W.heap.size → ¬ b = g → W'.cell? ⟨b, o, none⟩ = W.cell? ⟨b, o, none⟩) ∧ (∀ b o, b < W.heap.size → ¬ b = g → W'.frozen? ⟨b, o, none⟩ = W.frozen? ⟨b, o, none⟩) ∧ ¬ W'.heap.size = g
theorem nameR_any (B g : Nat) (A : Option Addr) (c : Nat) (zs : List Int) (p : Nat) (W : World) (h : Rdr W B g A c zs p) (hp : p ≤ 900000) :
    Calls Try.prog 48 #[.pointer (some ⟨g, 0, none⟩)] W (NameR B g A c zs W) := by
  refine (l91Name_any B g A c zs p W h hp).mono ?_
  rintro e w1 ⟨s, p', rfl, hs, _, hr1, hg1⟩
  exact ⟨s, p', rfl, hs, hr1, hg1, grown_facts hg1 h.lt⟩
/-- One of three numbers that have just been written down. -/
def oneOf (a b c : Int) (q : Nat) : Int := if q = 0 then a else if q = 1 then b else c
theorem lit_cell3 (W : World) (T : TypeId) (a b c : Int) (q : Nat) (hq : q < 3) : (W.alloc (.cells #[.int .i64 a, .int .i64 b, .int .i64 c] T)).cell? ⟨W.heap.size, q, none⟩ = some (.int .i64 (oneOf a b c q)) := by
  rw [cell_of_row _ W.heap.size q _ _ (0, 0) (heap_alloc_new W _)]
  match q, hq with
  | 0, _ => rfl
  | 1, _ => rfl
  | 2, _ => rfl

theorem ownE_chain {W0 W W' : World} {base g : Nat} {A : Option Addr} {c : Nat} {xs : List Ev} (h : OwnEvs W0 base A c xs) (hg : W.grownBy W' (some g)) (hlt : g < base) (hW : Below W0.heap.size W0 W) : OwnEvs W' base A c xs := ownE_grown (h.below hW) hg hlt
theorem below_chain {W0 W W' : World} {B g : Nat} {w : World} (h : Below B w W0) (hg : W.grownBy W' (some g)) (hB : B ≤ g) (hW : Below W0.heap.size W0 W) (hs : B ≤ W0.heap.size) : Below B w W' :=
  (h.trans (hW.mono hs)).trans ((Below.refl _ _).grown hg (by have := hW.size; omega) (fun k hk => by injection hk with hk; omega))
/-- A place in a list that is to be written: it is there. -/
theorem keptE {W0 W' W : World} {ga g : Nat} {es : List Ev} (hc : Hid (∀ j (hj : j < es.length), W0.cell? ⟨ga, j * 2, none⟩ = some (.int .i64 es[j].kind) ∧ W0.cell? ⟨ga, j * 2 + 1, none⟩ = some (.string es[j].name)))
    (hf : ∀ j, W0.frozen? ⟨ga, j, none⟩ = false) (hl : ga < W0.heap.size) (hne : ¬ ga = g) (hg : W.grownBy W' (some g)) (q : Nat) (hq : q < es.length) (hW : Below W0.heap.size W0 W) :
    W'.cell? ⟨ga, q * 2, none⟩ = some (.int .i64 es[q].kind) ∧ W'.cell? ⟨ga, q * 2 + 1, none⟩ = some (.string es[q].name) ∧ W'.frozen? ⟨ga, q * 2, none⟩ = false ∧ W'.frozen? ⟨ga, q * 2 + 1, none⟩ = false ∧ ga < W'.heap.size := by
  have hb : W'.heap[ga]? = W0.heap[ga]? := (hg.block ga (by have := hW.size; omega) (fun e => hne (by injection e))).trans (hW.block ga hl)
  exact ⟨(World.cell?_of_block (w := W0) (a := ⟨ga, q * 2, none⟩) hb).trans (hc.out q hq).1, (World.cell?_of_block (w := W0) (a := ⟨ga, q * 2 + 1, none⟩) hb).trans (hc.out q hq).2,
    (World.frozen?_of_block (w := W0) (a := ⟨ga, q * 2, none⟩) hb).trans (hf _), (World.frozen?_of_block (w := W0) (a := ⟨ga, q * 2 + 1, none⟩) hb).trans (hf _), by have := hW.size; have := hg.size; omega⟩
theorem keptC {W0 W' W : World} {ga g q : Nat} {x y : Value} (hg : W.grownBy W' (some g)) (hx : W0.cell? ⟨ga, q * 2, none⟩ = some x) (hy : W0.cell? ⟨ga, q * 2 + 1, none⟩ = some y) (hu : W0.frozen? ⟨ga, q * 2, none⟩ = false) (hv : W0.frozen? ⟨ga, q * 2 + 1, none⟩ = false)
    (hl : ga < W0.heap.size) (hne : ¬ ga = g) (hW : Below W0.heap.size W0 W) :
    W'.cell? ⟨ga, q * 2, none⟩ = some x ∧ W'.cell? ⟨ga, q * 2 + 1, none⟩ = some y ∧ W'.frozen? ⟨ga, q * 2, none⟩ = false ∧ W'.frozen? ⟨ga, q * 2 + 1, none⟩ = false ∧ ga < W'.heap.size := by
  have hb : W'.heap[ga]? = W0.heap[ga]? := (hg.block ga (by have := hW.size; omega) (fun e => hne (by injection e))).trans (hW.block ga hl)
  exact ⟨(World.cell?_of_block (w := W0) (a := ⟨ga, q * 2, none⟩) hb).trans hx, (World.cell?_of_block (w := W0) (a := ⟨ga, q * 2 + 1, none⟩) hb).trans hy,
    (World.frozen?_of_block (w := W0) (a := ⟨ga, q * 2, none⟩) hb).trans hu, (World.frozen?_of_block (w := W0) (a := ⟨ga, q * 2 + 1, none⟩) hb).trans hv, by have := hW.size; have := hg.size; omega⟩

/-- Events are drawn from a code: at most 21; in memory of the call's own. -/
def DrawnEvs (w : World) (e : Ending) (w' : World) : Prop :=
  ∃ (A' : Option Addr) (c' : Nat) (es : List Ev), e = .returned (.slice A' es.length c') ∧ OwnEvs w' w.heap.size A' c' es ∧ es.length ≤ 21 ∧ (∀ x ∈ es, x.name.size ≤ 6) ∧ Below w.heap.size w w'

set_option maxHeartbeats 6000000 in
theorem drawEventsValid_any (A : Option Addr) (c : Nat) (zs : List Int) (w : World) (h : Byts w w.heap.size A c zs) :
    Calls Try.prog 25 #[.slice A zs.length c] w (DrawnEvs w) := by
  go_enter Try.func25, Try.ntmps25
  go_wp2_with fail
  refine (open_any w.heap.size A c zs w h (Nat.le_refl _)).mono ?_
  rintro e w1 ⟨zs, rfl, hr1, hb1, hz1⟩
  have hg1 : w.heap.size < w1.heap.size := by omega
  clear hz1
  go_wp2_with fail
  refine (pick_any w.heap.size w.heap.size A c zs 0 _ _ (hr1.alloc _) (by omega)).mono ?_
  rintro e w2 ⟨v1, rfl, hv10, hv11, hr2, hg2⟩
  have ho2 : OwnEvs w2 (w.heap.size + 1) (some ⟨w1.heap.size, 0, none⟩) 0 [] := by
    refine ownE_grown ?_ hg2 (Nat.lt_succ_self _)
    exact ⟨World.ownsRow_lit w1 #[] 0 (by omega) (by simp only [maxLen]; omega) rfl, fun x hx => by cases hx⟩
  have hb2 : Below w.heap.size w w2 := (hb1.alloc hb1.size _).trans (grown_below hg2 (Nat.le_refl _) (by simp; omega))
  have hs2 : w1.heap.size < w2.heap.size := by have := hg2.size; simp at this; omega
  clear hg2
  go_wp2_with fail
  refine (pick_any w.heap.size w.heap.size A c zs (0 + 1) _ _ hr2 (by omega)).mono ?_
  rintro e w3 ⟨v2, rfl, hv20, hv21, hr3, hg3⟩
  have ho3 := ownE_grown ho2 hg3 (Nat.lt_succ_self _)
  have hb3 := hb2.trans (grown_below hg3 (Nat.le_refl _) hb2.size)
  have hs3 := hg3.size
  clear ho2 hg3
  have st3 : EvState w A c zs w3 (some ⟨w1.heap.size, 0, none⟩) 0 [] (0 + 1 + 1) := ⟨hr3, ho3, hb3, by omega, fun x hx => by cases hx⟩
  clear hr3 ho3 hb3 hr2 hb2 hr1 hb1
  go_upto_if 14 with fail
  go_cut [5] (fun n wx => ∃ (v p : Nat), n = .int .i64 v ∧ v ≤ 21 ∧ p ≤ 3 ∧ EvState w A c zs wx (some ⟨w1.heap.size, 0, none⟩) 0 [] p)
  case first =>
    by_cases hz : v2 = 0
    · subst hz
      go_wp2_with fail
      refine (pick_any w.heap.size w.heap.size A c zs (0 + 1 + 1) _ _ st3.rd (by omega)).mono ?_
      rintro e w4 ⟨v3, rfl, hv30, hv31, hr4, hg4⟩
      obtain ⟨k, rfl⟩ := Int.eq_ofNat_of_zero_le hv30
      have hk : k ≤ 1 := by omega
      have st4 := st3.after hr4 hg4
      go_wp2_with fail
      go_meet
      exact ⟨20 + k, 3, by go_num, by omega, by omega, st4⟩
    · have hz' : (v2 == 0) = false := by simpa using hz
      clear hz
      obtain ⟨k, rfl⟩ := Int.eq_ofNat_of_zero_le hv10
      go_wp2_with fail
      go_meet
      exact ⟨k, 2, rfl, by omega, by omega, st3⟩
  case rest =>
    clear st3
    obtain ⟨n, p, rfl, hn, hp, st⟩ := hcut
    go_wp2_with fail
    go_loopw [4, 6] (fun out i wr => ∃ (k : Nat) (es : List Ev) (A' : Option Addr) (c' p' : Nat), k ≤ n ∧ i = .int .i64 k ∧ es.length ≤ k ∧ k ≤ es.length ∧ out = .slice A' es.length c' ∧ p' ≤ 3 + 2 * k ∧ EvState w A c zs wr A' c' es p') (fun _ i _ => n - (intOf i).toNat)
    case atStart => exact ⟨0, [], _, 0, p, Nat.zero_le _, rfl, Nat.le_refl _, Nat.le_refl _, rfl, by omega, st⟩
    case round =>
      clear st
      obtain ⟨k, es, A', c', p', hk, rfl, hx0, hx1, rfl, hp', st⟩ := hrel
      by_cases hlt : k < n
      · go_wp2_with fail
        refine (pick_any w.heap.size w.heap.size A c zs p' _ _ st.rd (by omega)).mono ?_
        rintro e w4 ⟨v3, rfl, hv30, hv31, hr4, hg4⟩
        obtain ⟨q, rfl⟩ := Int.eq_ofNat_of_zero_le hv30
        have hq : q ≤ 2 := by omega
        have st4 := st.after hr4 hg4
        clear st hv31 hv30 hr4 hg4
        go_wp2_with fail
        refine (ofLit_any [⟨#[97]⟩, ⟨#[98]⟩, ⟨#[99]⟩] w.heap.size w.heap.size A c zs (p' + 1) 3 w4 st4.rd (by omega) rfl (by omega) (by omega)).mono ?_
        rintro e w5 ⟨s, rfl, hs, hr5, hg5⟩
        have hs6 : s.size ≤ 6 := by
          simp only [List.mem_cons, List.not_mem_nil, or_false] at hs
          rcases hs with rfl | rfl | rfl <;> decide
        have st5 := st4.after hr5 hg5
        clear hs st4 hr5 hg5
        have ho5 := st5.own.alloc (.cells #[.int .i64 (1 + (q : Int)), .string s] 41)
        have hev := Evs.one w5 (1 + (q : Int)) s (by omega)
        have hsz := st5.size
        go_wp2_with (at_builtin; refine wpList_append_evs _ rfl (.tmp 23) (.tmp 31) rfl (w.heap.size + 1) A' c' es _ rfl (Lib.hid rfl) ho5 (some ⟨w5.heap.size, 0, none⟩) 1 (w5.heap.size + 1) [⟨1 + (q : Int), s⟩] _ rfl (Lib.hid rfl) hev _ rfl (by simp; omega) (by simp; omega) ?_; intro A6 c6 w6 ho6 hb6 hg6)
        go_roundw
        case rel => exact ⟨k + 1, es ++ [⟨1 + (q : Int), s⟩], A6, c6, p' + 2, by omega, by go_num, by simp; omega, by simp; omega, by simp, by omega, ⟨(st5.rd.alloc _).below hb6 (Nat.lt_succ_self _), ho6, (st5.low.alloc (by omega) _).trans (hb6.mono (by omega)), by have := hb6.size; simp at this; omega, fun x hx => by
          rcases List.mem_append.1 hx with hx | hx
          · exact st5.lens x hx
          · simp at hx; subst hx; exact hs6⟩⟩
        case measure => simp [intOf]; omega
      · obtain rfl : k = n := by omega
        by_cases h0 : 0 < k
        · go_wp2_with fail
          refine (pick_any w.heap.size w.heap.size A c zs p' _ _ st.rd (by omega)).mono ?_
          rintro e w4 ⟨v4, rfl, hv40, hv41, hr4, hg4⟩
          have st4 := st.after hr4 hg4
          clear st hr4 hg4
          by_cases hz : v4 = 0
          · subst hz
            obtain ⟨ga, rfl, hga, hgl, hfz, hcell⟩ := ownEvs_form st4.own (by omega)
            have hgne : ¬ ga = w.heap.size := by omega
            have ht4 := Nat.ne_of_lt hgl
            have hne4 : ¬ w4.heap.size = w.heap.size := by have := st4.size; omega
            have hrd := Lib.hid (st4.rd.keep (w' := w4.drew) fun _ _ => rfl)
            have hrda := fun o => Lib.hid (hrd.out.alloc o)
            have Hcell := Lib.hid hcell
            clear hcell
            go_wp2_with fail
            have hlit := fun W q => lit_cell3 W 3 0 4 1 q
            go_region_with (first
              | (go_at_call 46; (with_reducible refine (pickR_any w.heap.size w.heap.size A c zs (p' + 1) k _ ?_ (by omega) (by omega)).mono ?_); (first | exact hrd.out | exact (hrda _).out); rintro e w5 ⟨q5, rfl, hq5, hr5, hg5, hc5, hf5, hn5⟩; have K5 := keptE Hcell hfz hgl hgne hg5 q5 (by omega) (by first | exact (Below.refl _ _).drew | exact ((Below.refl _ _).drew).alloc (Nat.le_refl _) _); obtain ⟨hx5, hy5, hu5, hv5, hl5⟩ := K5; obtain ⟨hx4, hy4⟩ := Hcell.out q5 (by omega); have ht5 := Nat.ne_of_lt hl5; have hz5 := hg5.size; (try simp at hz5); (try (have p45 : w4.heap.size < w5.heap.size := by omega)))
              | (go_at_call 46; (with_reducible refine (pickR3_any w.heap.size w.heap.size A c zs (p' + 1 + 1) _ ?_ (by omega)).mono ?_); (first | exact hr5 | exact hr5.alloc _); rintro e w6 ⟨q6, rfl, hq6, hr6, hg6, hc6, hf6, hn6⟩; have K6 := keptC hg6 hx5 hy5 hu5 hv5 hl5 hgne (by first | exact Below.refl _ _ | exact (Below.refl _ _).alloc (Nat.le_refl _) _); obtain ⟨hx6, hy6, hu6, hv6, hl6⟩ := K6; have ht6 := Nat.ne_of_lt hl6; have hz6 := hg6.size; (try simp at hz6); (try (have q46 : w4.heap.size < w6.heap.size := by omega)); (try (have q56 : w5.heap.size < w6.heap.size := by omega)))
              | (go_at_call 48; (with_reducible refine (nameR_any w.heap.size w.heap.size A c zs (p' + 1 + 1 + 1) _ ?_ (by omega)).mono ?_); (first | exact hr6 | exact hr6.alloc _); rintro e w7 ⟨s7, p7, rfl, hs7, hr7, hg7, hc7, hf7, hn7⟩; have K7 := keptC hg7 hx6 hy6 hu6 hv6 hl6 hgne (by first | exact Below.refl _ _ | exact (Below.refl _ _).alloc (Nat.le_refl _) _); obtain ⟨hx7, hy7, hu7, hv7, hl7⟩ := K7; have ht7 := Nat.ne_of_lt hl7; have hz7 := hg7.size; (try simp at hz7)))
            all_goals
              have O5 := ownE_chain st4.own hg5 (Nat.lt_succ_self _) (by first | exact (Below.refl _ _).drew | exact ((Below.refl _ _).drew).alloc (Nat.le_refl _) _)
              have L5 := below_chain st4.low hg5 (Nat.le_refl _) (by first | exact (Below.refl _ _).drew | exact ((Below.refl _ _).drew).alloc (Nat.le_refl _) _) st4.low.size
              have O6 := ownE_chain O5 hg6 (Nat.lt_succ_self _) (by first | exact Below.refl _ _ | exact (Below.refl _ _).alloc (Nat.le_refl _) _)
              have L6 := below_chain L5 hg6 (Nat.le_refl _) (by first | exact Below.refl _ _ | exact (Below.refl _ _).alloc (Nat.le_refl _) _) L5.size
              have O7 := ownE_chain O6 hg7 (Nat.lt_succ_self _) (by first | exact Below.refl _ _ | exact (Below.refl _ _).alloc (Nat.le_refl _) _)
              have L7 := below_chain L6 hg7 (Nat.le_refl _) (by first | exact Below.refl _ _ | exact (Below.refl _ _).alloc (Nat.le_refl _) _) L6.size
              have hq : q5 < es.length := by omega
              have hle : ∀ x ∈ es.set q5 ⟨oneOf 0 4 1 q6, s7⟩, x.name.size ≤ 6 := by
                intro x hx
                rcases List.mem_or_eq_of_mem_set hx with hx | rfl
                · exact st4.lens x hx
                · exact hs7
              have hln : (es.set q5 ⟨oneOf 0 4 1 q6, s7⟩).length ≤ 21 := by rw [List.length_set]; omega
              clear hlit hx4 hy4 hx5 hy5 hx6 hy6 hx7 hy7 hc5 hc6 hc7 hf5 hf6 hf7
              go_wp2_with fail
              go_ret
              refine ⟨some ⟨ga, 0, none⟩, c', es.set q5 ⟨oneOf 0 4 1 q6, s7⟩, by rw [List.length_set]; rfl, ?_, hln, hle, ?_⟩
              · first
                  | exact (O7.store q5 hq ⟨oneOf 0 4 1 q6, s7⟩ (by show s7.size ≤ _; omega)).base_ (by omega)
                  | exact ((O7.alloc _).store q5 hq ⟨oneOf 0 4 1 q6, s7⟩ (by show s7.size ≤ _; omega)).base_ (by omega)
                  | exact ((O7.store q5 hq ⟨oneOf 0 4 1 q6, s7⟩ (by show s7.size ≤ _; omega)).alloc _).base_ (by omega)
              · first
                  | exact (L7.setCell (by show w.heap.size ≤ ga; omega) _).setCell (by show w.heap.size ≤ ga; omega) _
                  | exact ((L7.alloc L7.size _).setCell (by show w.heap.size ≤ ga; omega) _).setCell (by show w.heap.size ≤ ga; omega) _
                  | exact ((L7.setCell (by show w.heap.size ≤ ga; omega) _).setCell (by show w.heap.size ≤ ga; omega) _).alloc (by simp; exact L7.size) _
          · have hz' : (v4 == 0) = false := by simpa using hz
            clear hz
            go_wp2_with fail
            go_ret
            exact ⟨A', c', es, rfl, st4.own.base_ (by omega), by omega, st4.lens, st4.low⟩
        · obtain rfl : k = 0 := by omega
          obtain rfl : es = [] := List.eq_nil_of_length_eq_zero (by omega)
          go_wp2_with fail
          go_ret
          exact ⟨A', c', [], rfl, st.own.base_ (by omega), by simp, st.lens, st.low⟩
end Go.Proofs.Ytcdccdgegmnhnaa
