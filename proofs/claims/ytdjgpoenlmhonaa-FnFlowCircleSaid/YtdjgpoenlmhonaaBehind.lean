/- Contract of the program's FlowBehind. Condition: at most 2000000 steps. -/
import Derived.Test.YtdjgpoenlmhonaaBehMap
import Derived.Test.YtdjgpoenlmhonaaBehindPlain
import Derived.Test.YtdjgpoenlmhonaaRuns
import Derived.Test.YtdjgpoenlmhonaaStepRows
import Derived.Test.YtdjgpoenlmhonaaRunBox
namespace Go.Proofs.Ytdjgpoenlmhonaa
set_option linter.unusedVariables false
set_option maxRecDepth 100000
open Go.RowKit

/-- The names told so far. -/
def toldBy (p : ByteArray → Bool) (xs : List ByteArray) (k : Nat) : List ByteArray := (xs.take k).filter p
theorem toldBy_succ {p : ByteArray → Bool} {xs : List ByteArray} {k : Nat} (h : k < xs.length) : toldBy p xs (k + 1) = toldBy p xs k ++ (if p xs[k] then [xs[k]] else []) := by
  unfold toldBy
  rw [List.take_succ_eq_append_getElem h, List.filter_append]
  congr 1
  cases hp : p xs[k] <;> simp [hp]
theorem toldBy_len (p : ByteArray → Bool) (xs : List ByteArray) (k : Nat) : (toldBy p xs k).length ≤ k := by
  unfold toldBy
  exact Nat.le_trans (List.length_filter_le _ _) (by simp; omega)
theorem toldBy_all (p : ByteArray → Bool) (xs : List ByteArray) : toldBy p xs xs.length = xs.filter p := by unfold toldBy; rw [List.take_length]
theorem behAll_next {ss : List St} {S T : List ByteArray} {xs : List ByteArray} {k : Nat} (hk : k < xs.length) (h : behAll ss S (xs.drop k) = T) : behAll ss (behIn xs[k] S (stepAt ss xs[k]).after) (xs.drop (k + 1)) = T := by
  rw [List.drop_eq_getElem_cons hk] at h; exact h
theorem behIn_next {n : ByteArray} {S T : List ByteArray} {xs : List ByteArray} {k : Nat} (hk : k < xs.length) (h : behIn n S (xs.drop k) = T) : behIn n (if has S xs[k] then n :: S else S) (xs.drop (k + 1)) = T := by
  rw [List.drop_eq_getElem_cons hk] at h; exact h
theorem grown_low2 {w a b : World} {mb : Nat} (h : Below w.heap.size w a) (hg : a.grownBy b (some mb)) (hm : w.heap.size ≤ mb) : Below w.heap.size w b :=
  h.grown hg h.size fun k e => by injection e with e; omega
theorem grown_tr {w a b : World} {g : Nat} (h : w.grownBy a (some g)) (k : a.grownBy b (some g)) : w.grownBy b (some g) :=
  ⟨k.os.trans h.os, k.tape.trans h.tape, k.output.trans h.output, Nat.le_trans h.size k.size, fun i hi hne => (k.block i (by have := h.size; omega) hne).trans (h.block i hi hne)⟩
theorem grown_refl (w : World) (mb : Nat) : w.grownBy w (some mb) := World.grownBy.refl _ _
theorem grown_more {w a b : World} {mb : Nat} (h : w.grownBy a (some mb)) (hb : Below a.heap.size a b) : w.grownBy b (some mb) := grown_tr h (below_grown hb)
theorem grown_cell {w a : World} {mb : Nat} {p : Addr} {v : Value} (h : w.grownBy a (some mb)) (hc : w.cell? p = some v) (hne : p.block ≠ mb) : a.cell? p = some v := h.cell hc (fun e => by injection e with e; exact hne e)

set_option maxHeartbeats 16000000 in
theorem iFlowBehind_any (ver : Int) (A : Option Addr) (c : Nat) (ss : List St) (nm : ByteArray) (w : World) (B : Nat) (h : Sts w B A c ss) (hn : nm.size ≤ 9223372036854775807) (hl : ss.length ≤ 2000000) :
    Calls Try.prog 5 #[flowV ver A ss.length c, .string nm] w (RetStrs (behOut ver ss nm) w) := by
  have h1 := h.len
  have h2 := h.cap
  have hmm := @run_makeMap Try.prog
  have b0 : Below w.heap.size w (w.alloc (.cells #[.int .i64 ver, .slice A ss.length c] 25)) := (Below.refl _ _).alloc (Nat.le_refl _) _
  have y1 := Cell2.new w (.int .i64 ver) (.slice A ss.length c) 25
  go_enter Try.func5, Try.ntmps5
  go_wp2_with fail
  (with_reducible refine (iFlowValid_any ver A c ss _ _ (h.then_ b0)).mono ?_)
  rintro e w1 ⟨rfl, hb1⟩
  have b1 := bthen b0 hb1
  have z1 := y1.then_ hb1
  clear y1 b0 hb1
  obtain ⟨f0, f1⟩ := id z1
  cases hok : flowOk ver ss
  · have hB := behOut_no (findB_noFlow (n := nm) hok)
    have E := Lib.hid hB
    clear hB hok
    go_wp2_with fail
    go_ret
    rw [E.out]
    exact ⟨none, 0, rfl, OwnStrs.nil_ _ _, b1⟩
  by_cases hm : nm ∈ names ss
  case neg =>
    have hB := behOut_no (findB_noName (ver := ver) hm)
    have E := Lib.hid hB
    have hpl := place_notMem hm
    have hdn : decide ((-1 : Int) < 0) = true := by decide
    have K := Lib.hid ((at_any ver A c ss nm w1 _ (h.then_ b1)).mono fun e w' ⟨h1, h2⟩ => (⟨h1.trans (ret_int hpl), h2⟩ : e = Ending.returned (.int .i64 (-1)) ∧ Below w1.heap.size w1 w'))
    clear hB hok hm hpl
    go_wp2_with fail
    (with_reducible refine K.out.mono ?_)
    rintro e w2 ⟨rfl, hb2⟩
    go_wp2_with fail
    go_ret
    rw [E.out]
    exact ⟨none, 0, rfl, OwnStrs.nil_ _ _, bthen b1 hb2⟩
  have hB := findB_iff.2 ⟨hok, hm⟩
  have E := Lib.hid (behOut_yes hB)
  have hp := place_mem hm
  obtain ⟨k0, hk0⟩ : ∃ k : Nat, place (names ss) nm = (k : Int) := ⟨(place (names ss) nm).toNat, by omega⟩
  have K := Lib.hid ((at_any ver A c ss nm w1 _ (h.then_ b1)).mono fun e w' ⟨h1, h2⟩ => (⟨h1.trans (ret_int hk0), h2⟩ : e = Ending.returned (.int .i64 (k0 : Int)) ∧ Below w1.heap.size w1 w'))
  have hd0 : decide ((k0 : Int) < 0) = false := by simp
  have Hok := Lib.hid hok
  have hss8 : ss.length ≤ 8 := (flowOk_iff.1 hok).2.2.2.1
  clear hB hok hm hk0 hp
  go_wp2_with fail
  (with_reducible refine K.out.mono ?_)
  rintro e w2 ⟨rfl, hb2⟩
  have b2 := bthen b1 hb2
  have z2 := z1.then_ hb2
  clear z1 b1 hb2 K f0 f1
  obtain ⟨w3, hrun3, t3, hg3⟩ := (Told.made w2).put (by omega) hn
  have hgm : w2.grownBy w3 (some w2.heap.size) := grown_tr (World.grownBy_alloc _ _ _) hg3
  have b3 := grown_low2 b2 hgm b2.size
  have hz3 : w2.heap.size < w3.heap.size := t3.lt
  have f0 := grown_cell hgm z2.c0 (by show w.heap.size ≠ w2.heap.size; have := z2.lt; omega)
  have f1 := grown_cell hgm z2.c1 (by show w.heap.size ≠ w2.heap.size; have := z2.lt; omega)
  clear hg3
  go_wp2_with fail
  (with_reducible refine (order_any ver A c ss w3 _ (h.then_ b3) hl).mono ?_)
  rintro e w4 ⟨A4, c4, rfl, ho4, hb4⟩
  have b4 := bthen b3 hb4
  have hzw := z2.lt
  have hol := ho4.strs.len
  have hoc := ho4.strs.cap
  have hon : (ord ss).length ≤ 8 := Nat.le_trans (ordN_length_le ss ss.length) hss8
  have hzx := b2.size
  have t4 := t3.then_ hb4
  have F4 : Cell2 w4 w.heap.size (.int .i64 ver) (.slice A ss.length c) := Cell2.then_ ⟨f0, f1⟩ hb4
  clear f0 f1 hgm hb4 t3 b3 b2 z2 hrun3
  have H0 : Hid (behAll ss [nm] ((ord ss).drop 0) = behAll ss [nm] (ord ss)) := Lib.hid rfl
  go_wp2_with fail
  go_loopw [28] (fun i wr => ∃ (k : Nat) (S : List ByteArray), k ≤ (ord ss).length ∧ i = .int .i64 k ∧ Told wr w2.heap.size (1 + 4 * k) S ∧ Hid (behAll ss S ((ord ss).drop k) = behAll ss [nm] (ord ss)) ∧ w4.grownBy wr (some w2.heap.size)) (fun i _ => (ord ss).length - (intOf i).toNat)
  case atStart => exact ⟨0, [nm], Nat.zero_le _, rfl, t4, H0, grown_refl _ _⟩
  case round =>
    clear t4 H0
    obtain ⟨k, S, hk, rfl, tk, hgo, hg⟩ := hrel
    have bw := grown_low2 b4 hg (by omega)
    have hst := h.then_ bw
    have f0 := grown_cell hg F4.c0 (by show w.heap.size ≠ w2.heap.size; omega)
    have f1 := grown_cell hg F4.c1 (by show w.heap.size ≠ w2.heap.size; omega)
    have FC : Cell2 wr w.heap.size (.int .i64 ver) (.slice A ss.length c) := ⟨f0, f1⟩
    by_cases hlt : k < (ord ss).length
    · have hoK : OwnStrs wr w3.heap.size A4 c4 (ord ss) := own_move ho4 fun q h1 h2 => hg.block q h2 (fun e => by injection e with e; omega)
      obtain ⟨ad, rfl, had, hc⟩ := hoK.strs.at_ hlt
      have hxs := hoK.strs.lens k hlt
      have hi0 : (0 : Int) ≤ k := by omega
      have hi1 : (k : Int) < (ord ss).length := by omega
      have hmem := ord_sub (List.getElem_mem hlt)
      have Hnx := Lib.hid (behAll_next hlt hgo.out)
      obtain ⟨n, hnn⟩ : ∃ n, n = (ord ss)[k] := ⟨_, rfl⟩
      rw [← hnn] at hc hxs hmem Hnx
      obtain ⟨s, hs, hsn, hsm⟩ := place_get hmem
      have hpn := place_mem hmem
      obtain ⟨j, hj⟩ : ∃ j : Nat, place (names ss) n = (j : Int) := ⟨(place (names ss) n).toNat, by omega⟩
      rw [hj, Int.toNat_natCast] at hs
      obtain ⟨hjs, hjs2⟩ := List.getElem?_eq_some_iff.1 hs
      have hsa : stepAt ss n = s := stepAt_get hs hj
      rw [hsa] at Hnx
      have hal : s.after.length ≤ 4 := by
        have := (flowOk_iff.1 Hok.out).2.2.2.2.2.1 s hsm
        unfold stepOk2 stepOk at this
        simp only [Bool.and_eq_true, decide_eq_true_eq] at this
        omega
      have K := Lib.hid ((at_any ver A c ss n wr.drew _ (hst.drew)).mono fun e w' ⟨h1, h2⟩ => (⟨h1.trans (ret_int hj), h2⟩ : e = Ending.returned (.int .i64 (j : Int)) ∧ Below wr.drew.heap.size wr.drew w'))
      obtain ⟨ad2, A1, c1, rfl, had2, _, hcx, _, hsa1⟩ := hst.at_ hjs
      rw [hjs2] at hcx hsa1
      have hj0 : (0 : Int) ≤ j := by omega
      have hj1 : (j : Int) < ss.length := by omega
      have hbl := World.block_lt_of_cell? _ _ hcx
      have hS : ∀ wx, Below wr.drew.heap.size wr.drew wx → (wx.cell? ⟨w.heap.size, 0, none⟩ = some (.int .i64 ver) ∧ wx.cell? ⟨w.heap.size, 1, none⟩ = some (.slice (some ad2) ss.length c)) ∧ wx.cell? ⟨(ad2.add (j * 3)).block, (ad2.add (j * 3)).off + 1, none⟩ = some (.slice A1 s.after.length c1) := fun wx hx =>
        have hu := Below.undrew hx
        ⟨⟨(FC.then_ hu).c0, (FC.then_ hu).c1⟩, (hu.cell (p := ⟨(ad2.add (j * 3)).block, (ad2.add (j * 3)).off + 1, none⟩) hbl).trans hcx⟩
      have S0 := hS _ (Below.refl _ _)
      have HS := Lib.hid hS
      clear hS hcx hgo hmem hsn hpn hj hs hjs2 hsa hsm hbl hnn
      go_wp2_with fail
      go_region_held3 (fun wx => (wx.cell? ⟨w.heap.size, 0, none⟩ = some (.int .i64 ver) ∧ wx.cell? ⟨w.heap.size, 1, none⟩ = some (.slice (some ad2) ss.length c)) ∧ wx.cell? ⟨(ad2.add (j * 3)).block, (ad2.add (j * 3)).off + 1, none⟩ = some (.slice A1 s.after.length c1))
        (first | exact S5 | exact S0)
        ((go_at_call 13; (with_reducible refine K.out.mono ?_); rintro e w5 ⟨rfl, hb5⟩; have S5 := HS.out _ hb5))
      have hb5' := Below.undrew hb5
      have t5 := tk.then_ hb5'
      have s5 := hsa1.below (hb5'.mono bw.size)
      have hg5 := grown_more hg hb5'
      have hal1 := hsa1.len
      have hal2 := hsa1.cap
      have hz5 := hb5'.size
      clear S0 S5 HS K hb5 hb5' tk f0 f1 FC hst hsa1 hoK hc had
      have H1 : Hid (behIn n S (s.after.drop 0) = behIn n S s.after) := Lib.hid rfl
      go_wp2_with fail
      go_loopw [41] (fun i wx => ∃ (q : Nat) (T : List ByteArray), q ≤ s.after.length ∧ i = .int .i64 q ∧ Told wx w2.heap.size (1 + 4 * k + q) T ∧ Hid (behIn n T (s.after.drop q) = behIn n S s.after) ∧ w5.grownBy wx (some w2.heap.size)) (fun i _ => s.after.length - (intOf i).toNat)
      case atStart => exact ⟨0, S, Nat.zero_le _, rfl, t5, H1, grown_refl _ _⟩
      case round =>
        clear t5 H1
        obtain ⟨q, T, hq, rfl, tq, hgq, hgw⟩ := hrel
        by_cases hqt : q < s.after.length
        · obtain ⟨ad3, rfl, had3, hc3⟩ := s5.at_ hqt
          have hc3' := grown_cell hgw hc3 (by rw [block_of_add]; omega)
          have hxs3 := s5.lens q hqt
          have hi3 : (0 : Int) ≤ q := by omega
          have hi4 : (q : Int) < s.after.length := by omega
          have Hn3 := Lib.hid (behIn_next hqt hgq.out)
          have hlook := tq.look hxs3
          cases hT : has T s.after[q]
          · rw [hT] at hlook Hn3
            clear hT hc3 hgq
            go_wp2_with fail
            go_roundw
            case rel => exact ⟨q + 1, T, by omega, by go_num, tq.mono (by omega), Hn3, hgw⟩
            case measure => simp [intOf]; omega
          · rw [hT] at hlook Hn3
            obtain ⟨w6, hrun6, t6, hg6⟩ := tq.put (by omega) hxs
            have hgN := grown_tr hgw hg6
            clear hT hc3 hgq hg6
            go_wp2_with fail
            go_roundw
            case rel => exact ⟨q + 1, n :: T, by omega, by go_num, t6, Hn3, hgN⟩
            case measure => simp [intOf]; omega
        · have hqe : q = s.after.length := by omega
          subst hqe
          have hfin := hgq.out
          rw [List.drop_length] at hfin
          have hfin2 : T = behIn n S s.after := hfin
          rw [← hfin2] at Hnx
          have hgN := grown_tr hg5 hgw
          have tN := tq.mono (m := 1 + 4 * (k + 1)) (by omega)
          clear hgq hfin hfin2
          go_wp2_with fail
          go_roundw
          case rel => exact ⟨k + 1, T, by omega, by go_num, tN, Hnx, hgN⟩
          case measure => simp [intOf]; omega
    · have hke : k = (ord ss).length := by omega
      subst hke
      have hfin := hgo.out
      rw [List.drop_length] at hfin
      have hfin2 : S = behAll ss [nm] (ord ss) := hfin
      have HB : Hid (behOut ver ss nm = (names ss).filter fun n => has S n && !decide (n = nm)) := Lib.hid (by rw [E.out, hfin2]; rfl)
      have hwz := bw.size
      have hgz := hg.size
      clear hgo hfin hfin2
      go_wp2_with fail
      (with_reducible refine (names_any ver A c ss wr _ hst hl).mono ?_)
      rintro e w7 ⟨A7, c7, rfl, ho7, hb7⟩
      have b7 := bthen bw hb7
      have t7 := tk.then_ hb7
      have hnl : (names ss).length ≤ 8 := by rw [names_length]; exact hss8
      have hsl := ho7.strs.len
      have hsc := ho7.strs.cap
      have hz7 := hb7.size
      clear f0 f1 FC hst hb7 tk hg
      go_wp2_with fail
      go_loopw [10, 55] (fun o i wx => ∃ (k : Nat) (A' : Option Addr) (c' : Nat), k ≤ (names ss).length ∧ i = .int .i64 k ∧ o = .slice A' (toldBy (fun n => has S n && !decide (n = nm)) (names ss) k).length c' ∧ OwnStrs wx w7.heap.size A' c' (toldBy (fun n => has S n && !decide (n = nm)) (names ss) k) ∧ Below w7.heap.size w7 wx) (fun _ i _ => (names ss).length - (intOf i).toNat)
      case atStart => exact ⟨0, none, 0, Nat.zero_le _, rfl, rfl, OwnStrs.nil_ _ _, Below.refl _ _⟩
      case round =>
        obtain ⟨k, A', c', hk, rfl, rfl, ho, hb⟩ := hrel
        have hbs := hb.size
        have hln := toldBy_len (fun n => has S n && !decide (n = nm)) (names ss) k
        by_cases hlt : k < (names ss).length
        · obtain ⟨ad, rfl, had, hc⟩ := (ho7.strs.then_ hb).at_ hlt
          have hxs := ho7.strs.lens k hlt
          have hi0 : (0 : Int) ≤ k := by omega
          have hi1 : (k : Int) < (names ss).length := by omega
          have Hsu := Lib.hid (@toldBy_succ (fun n => has S n && !decide (n = nm)) (names ss) k hlt)
          have hlook := (t7.then_ hb).look hxs
          obtain ⟨n, hnn⟩ : ∃ n, n = (names ss)[k] := ⟨_, rfl⟩
          rw [← hnn] at hc hxs hlook Hsu
          have hneq : (n.toList != nm.toList) = !decide (n = nm) := by
            show (!(n.toList == nm.toList)) = _
            rw [str_beq]
          clear hnn
          have hneq2 : (n.toList == nm.toList) = decide (n = nm) := str_beq _ _
          have ho2 := ho.alloc (.cells #[.string n] 9)
          cases hT : has S n
          · rw [hT] at hlook Hsu
            have HN := Lib.hid (Hsu.out.trans (List.append_nil _))
            clear hT Hsu hneq
            go_wp2_with fail
            go_roundw
            case rel => exact ⟨k + 1, A', c', by omega, by go_num, by rw [HN.out], by rw [HN.out]; exact ho, hb⟩
            case measure => simp [intOf]; omega
          · rw [hT] at hlook Hsu
            by_cases he : n = nm
            · rw [decide_eq_true he] at hneq hneq2 Hsu
              have HN := Lib.hid (Hsu.out.trans (List.append_nil _))
              clear hT Hsu he
              go_wp2_with fail
              go_roundw
              case rel => exact ⟨k + 1, A', c', by omega, by go_num, by rw [HN.out], by rw [HN.out]; exact ho, hb⟩
              case measure => simp [intOf]; omega
            · rw [decide_eq_false he] at hneq hneq2 Hsu
              have HN : Hid (toldBy (fun n => has S n && !decide (n = nm)) (names ss) (k + 1) = toldBy (fun n => has S n && !decide (n = nm)) (names ss) k ++ [n]) := Hsu
              clear hT Hsu he
              go_wp2_with (at_builtin; (refine wpList_append_name _ rfl (.tmp 67) (.tmp 69) rfl w7.heap.size A' c' _ rfl ho2 ⟨wr.heap.size, 0, none⟩ 1 n rfl (cell_new1 _ _ _) hxs (by omega) (by simp; omega) ?_); intro A3 c3 w3 hap)
              go_roundw
              case rel => exact ⟨k + 1, A3, c3, by omega, by go_num, by rw [HN.out]; simp, by rw [HN.out]; exact hap.own, (hb.alloc hbs _).trans hap.low⟩
              case measure => simp [intOf]; omega
        · have hke : k = (names ss).length := by omega
          subst hke
          have hz9 := b7.size
          rw [toldBy_all] at ho ⊢
          have HB2 := Lib.hid HB.out.symm
          go_wp2_with fail
          go_ret
          rw [HB.out]
          exact ⟨A', c', rfl, ho.base_ (by omega), b7.trans (hb.mono (by omega))⟩
end Go.Proofs.Ytdjgpoenlmhonaa
