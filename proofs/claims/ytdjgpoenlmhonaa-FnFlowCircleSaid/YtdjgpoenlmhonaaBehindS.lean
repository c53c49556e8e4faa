/- Contract of the reference's FlowBehind. Condition: at most 2000000 steps. -/
import Derived.Test.YtdjgpoenlmhonaaBehindPlain
import Derived.Test.YtdjgpoenlmhonaaPutIn
import Derived.Test.YtdjgpoenlmhonaaSpecFlowValid
namespace Go.Proofs.Ytdjgpoenlmhonaa
set_option linter.unusedVariables false
set_option maxRecDepth 100000
open Go.RowKit

/-- What the list of those told is like. -/
def TellOk (ss : List St) (ys : List ByteArray) : Prop := Srt ys ∧ ∀ x ∈ ys, x ∈ names ss
theorem TellOk.nil_ (ss : List St) : TellOk ss [] := ⟨srt_nil, fun x h => by cases h⟩
theorem TellOk.put {ss : List St} {ys : List ByteArray} (h : TellOk ss ys) {s : St} (hs : s ∈ ss) : TellOk ss (putIn ys s.name) :=
  ⟨putIn_srt h.1, fun x hx => by
    rcases mem_putIn.1 hx with e | e
    · rw [e]; exact List.mem_map.2 ⟨s, hs, rfl⟩
    · exact h.2 x e⟩
theorem TellOk.len {ss : List St} {ys : List ByteArray} (h : TellOk ss ys) : ys.length ≤ ss.length := by
  have hn : ys.Nodup := List.Pairwise.imp (fun {a b} hab => by rintro rfl; rw [blt_irrefl] at hab; cases hab) h.1
  have := nodup_sub_length hn h.2
  simpa [names] using this
theorem sbR_next {nm : ByteArray} {ys T : List ByteArray} {ss : List St} {k : Nat} (hk : k < ss.length) (h : sbR nm ys (ss.drop k) = T) : sbR nm (sbS nm ys ss[k]) (ss.drop (k + 1)) = T := by
  rw [List.drop_eq_getElem_cons hk] at h; exact h
theorem sbK_next {n : ByteArray} {ys T xs : List ByteArray} {k : Nat} (hk : k < xs.length) (h : sbK n ys (xs.drop k) = T) : sbK n (if has ys xs[k] then putIn ys n else ys) (xs.drop (k + 1)) = T := by
  rw [List.drop_eq_getElem_cons hk] at h; exact h
theorem place_dec (xs : List ByteArray) (s : ByteArray) : decide (0 ≤ place xs s) = has xs s := (has_place xs s).symm

set_option maxHeartbeats 16000000 in
theorem sFlowBehind_any (ver : Int) (A : Option Addr) (c : Nat) (ss : List St) (nm : ByteArray) (w : World) (B : Nat) (h : Sts w B A c ss) (hl : ss.length ≤ 2000000) :
    Calls Try.prog 6 #[flowV ver A ss.length c, .string nm] w (RetStrs (behOut ver ss nm) w) := by
  have h1 := h.len
  have h2 := h.cap
  have b0 : Below w.heap.size w ((w.alloc (.cells #[.int .i64 ver, .slice A ss.length c] 25)).alloc (.cells #[] 9)) := ((Below.refl _ _).alloc (Nat.le_refl _) _).alloc (by simp) _
  have y1 := (Cell2.new w (.int .i64 ver) (.slice A ss.length c) 25).alloc (.cells #[] 9)
  have hs1 : (w.alloc (.cells #[.int .i64 ver, .slice A ss.length c] 25)).heap.size = w.heap.size + 1 := by simp
  have oz := own_lit0 (w.alloc (.cells #[.int .i64 ver, .slice A ss.length c] 25)) (w.heap.size + 1) (by rw [hs1]; omega)
  rw [hs1] at oz
  obtain ⟨P, hP⟩ : ∃ P, P = place (names ss) nm := ⟨_, rfl⟩
  have HP := Lib.hid hP
  clear hP
  go_enter Try.func6, Try.ntmps6
  go_wp2_with fail
  (with_reducible refine (sFlowValid_any ver A c ss _ _ (h.then_ b0) hl).mono ?_)
  rintro e w1 ⟨rfl, hb1⟩
  have b1 := bthen b0 hb1
  have z1 := y1.then_ hb1
  have o1 := oz.below hb1
  have hz1 : w.heap.size + 2 ≤ w1.heap.size := by have := hb1.size; simp at this; omega
  clear y1 b0 hb1 oz hs1
  obtain ⟨f0, f1⟩ := id z1
  cases hok : flowOk ver ss
  · have E := Lib.hid (behOut_no (findB_noFlow (n := nm) hok))
    clear hok
    go_wp2_with fail
    go_ret
    rw [E.out]
    exact ⟨some ⟨w.heap.size + 1, 0, none⟩, 0, rfl, o1.base_ (by omega), b1⟩
  have KA := Lib.hid ((l2At_any A c ss nm w1 _ (h.then_ b1)).mono fun e w' ⟨h1, h2⟩ => (⟨h1.trans (ret_int HP.out.symm), h2⟩ : e = Ending.returned (.int .i64 P) ∧ w1 = w'))
  by_cases hm : nm ∈ names ss
  case neg =>
    have E := Lib.hid (behOut_no (findB_noName (ver := ver) hm))
    have hpn : P < 0 := by rw [HP.out, place_notMem hm]; omega
    have hdn : decide (P < 0) = true := decide_eq_true hpn
    clear hok hm
    go_wp2_with (go_at_call 17; (with_reducible refine KA.out.mono ?_); rintro e w' ⟨rfl, rfl⟩)
    go_ret
    rw [E.out]
    exact ⟨some ⟨w.heap.size + 1, 0, none⟩, 0, rfl, o1.base_ (by omega), b1⟩
  have hp0 : 0 ≤ P := by rw [HP.out]; exact place_mem hm
  have hpn : ¬ P < 0 := by omega
  have hdn : decide (P < 0) = false := decide_eq_false hpn
  have hss8 : ss.length ≤ 8 := (flowOk_iff.1 hok).2.2.2.1
  have hall : ∀ s ∈ ss, s.after.length ≤ 4 := fun s hs => by
    have := (flowOk_iff.1 hok).2.2.2.2.2.1 s hs
    unfold stepOk2 stepOk at this
    simp only [Bool.and_eq_true, decide_eq_true_eq] at this
    omega
  have Hal := Lib.hid hall
  have E := Lib.hid (behOut_spec (findB_iff.2 ⟨hok, hm⟩))
  clear hok hm hall
  go_wp2_with (go_at_call 17; (with_reducible refine KA.out.mono ?_); rintro e w' ⟨rfl, rfl⟩)
  go_loopw [5, 6] (fun o i wr => ∃ (n : Nat) (A' : Option Addr) (c' : Nat), n ≤ ss.length ∧ i = .int .i64 n ∧ o = .slice A' (sbN nm ss n).length c' ∧ OwnStrs wr (w.heap.size + 1) A' c' (sbN nm ss n) ∧ TellOk ss (sbN nm ss n) ∧ Below (w.heap.size + 1) w1 wr) (fun _ i _ => ss.length - (intOf i).toNat)
  case atStart => exact ⟨0, some ⟨w.heap.size + 1, 0, none⟩, 0, Nat.zero_le _, rfl, rfl, o1, TellOk.nil_ _, Below.refl _ _⟩
  case round =>
    clear o1 f0 f1
    obtain ⟨n, A', c', hn, rfl, rfl, ho, htl, hb⟩ := hrel
    have f0 := (hb.cell (p := ⟨w.heap.size, 0, none⟩) (by show w.heap.size < w.heap.size + 1; omega)).trans z1.c0
    have f1 := (hb.cell (p := ⟨w.heap.size, 1, none⟩) (by show w.heap.size < w.heap.size + 1; omega)).trans z1.c1
    by_cases hlt : n < ss.length
    · have H0 : Hid (sbR nm (sbN nm ss n) (ss.drop 0) = sbN nm ss (n + 1)) := Lib.hid rfl
      have hsz := hb.size
      go_wp2_with fail
      go_loopw [5, 7] (fun o i wx => ∃ (j : Nat) (A' : Option Addr) (c' : Nat) (ys : List ByteArray), j ≤ ss.length ∧ i = .int .i64 j ∧ o = .slice A' ys.length c' ∧ OwnStrs wx (w.heap.size + 1) A' c' ys ∧ TellOk ss ys ∧ Hid (sbR nm ys (ss.drop j) = sbN nm ss (n + 1)) ∧ Below (w.heap.size + 1) w1 wx) (fun _ i _ => ss.length - (intOf i).toNat)
      case atStart => exact ⟨0, A', c', _, Nat.zero_le _, rfl, rfl, ho, htl, H0, hb⟩
      case round =>
        clear H0 ho htl f0 f1 hsz
        obtain ⟨j, A', c', ys, hj, rfl, rfl, ho, htl, hgo, hb⟩ := hrel
        have f0 := (hb.cell (p := ⟨w.heap.size, 0, none⟩) (by show w.heap.size < w.heap.size + 1; omega)).trans z1.c0
        have f1 := (hb.cell (p := ⟨w.heap.size, 1, none⟩) (by show w.heap.size < w.heap.size + 1; omega)).trans z1.c1
        have hsz := hb.size
        by_cases hjt : j < ss.length
        · have bw := b1.trans (hb.mono (by omega))
          obtain ⟨ad, A1, c1, rfl, had, hc0, hc1, hc2, hsa⟩ := (h.then_ bw).at_ hjt
          have hmem : ss[j] ∈ ss := List.getElem_mem hjt
          have hal := Hal.out _ hmem
          have hns := h.lens j hjt
          have Hn := Lib.hid (sbR_next hjt hgo.out)
          have hTP : Hid (∀ zs : List ByteArray, TellOk ss zs → TellOk ss (putIn zs ss[j].name)) := Lib.hid (fun zs hz => hz.put hmem)
          generalize ss[j] = s at *
          have hyl := htl.len
          have hcl := hsa.len
          have hcp := hsa.cap
          have ba : Below wr.heap.size wr (wr.alloc (.cells #[.string s.name, .slice A1 s.after.length c1, .bool s.undo] 32)) := (Below.refl _ _).alloc (Nat.le_refl _) _
          have bx := Cell3.new wr (.string s.name) (.slice A1 s.after.length c1) (.bool s.undo) 32
          obtain ⟨x0, x1, x2⟩ := id bx
          have K1 := Lib.hid (l1At_any A1 c1 s.after nm (wr.alloc (.cells #[.string s.name, .slice A1 s.after.length c1, .bool s.undo] 32)) _ (hsa.then_ ba))
          have hdec := place_dec s.after nm
          generalize place s.after nm = P1 at *
          have R0 : ∃ Y, Y = sbS nm ys s := ⟨_, rfl⟩
          obtain ⟨Y, hY⟩ := R0
          rw [← hY] at Hn
          cases hT : has s.after nm
          case' false =>
            have HY : Hid (sbK s.name ys (s.after.drop 0) = Y) := Lib.hid (by rw [hY]; unfold sbS; rw [hT]; rfl)
            rw [hT] at hdec
            have ho5 := ho.alloc (.cells #[.string s.name, .slice A1 s.after.length c1, .bool s.undo] 32)
            have ht5 := htl
            have hb5 := ba
            have bx5 := bx
            clear hY hT hgo ho htl
            go_wp2_with (go_at_call 18; (with_reducible refine K1.out.mono ?_); rintro e w' ⟨rfl, rfl⟩)
          case' true =>
            have HY : Hid (sbK s.name (putIn ys s.name) (s.after.drop 0) = Y) := Lib.hid (by rw [hY]; unfold sbS; rw [hT]; rfl)
            rw [hT] at hdec
            have ht5 := hTP.out _ htl
            clear hY hT hgo
            go_wp2_with (go_at_call 18; (with_reducible refine K1.out.mono ?_); rintro e w' ⟨rfl, rfl⟩)
            (with_reducible refine (l1Put_any A' c' ys s.name _ _ (ho.alloc _).strs hns (by omega)).mono ?_)
            rintro e w4 ⟨A4, c4, rfl, ho4, hb4⟩
            have ho5 := ho4.base_ (base' := w.heap.size + 1) (by simp; omega)
            have hb5 := bthen ba hb4
            have bx5 := bx.then_ hb4
            clear x0 x1 x2 bx hb4 ho4 ho htl
            obtain ⟨x0, x1, x2⟩ := id bx5
            go_wp2_with fail
          all_goals
            clear K1 hdec ba
            go_loopw [5, 9] (fun o i wx => ∃ (q : Nat) (A' : Option Addr) (c' : Nat) (ys : List ByteArray), q ≤ s.after.length ∧ i = .int .i64 q ∧ o = .slice A' ys.length c' ∧ OwnStrs wx (w.heap.size + 1) A' c' ys ∧ TellOk ss ys ∧ Hid (sbK s.name ys (s.after.drop q) = Y) ∧ Cell3 wx wr.heap.size (.string s.name) (.slice A1 s.after.length c1) (.bool s.undo) ∧ Below wr.heap.size wr wx) (fun _ i _ => s.after.length - (intOf i).toNat)
            case atStart => exact ⟨0, _, _, _, Nat.zero_le _, rfl, rfl, ho5, ht5, HY, bx5, hb5⟩
            case round =>
              clear ho5 ht5 HY bx5 hb5 x0 x1 x2
              obtain ⟨q, A6, c6, zs, hq, rfl, rfl, ho6, ht6, hg6, bx6, hb6⟩ := hrel
              obtain ⟨x0, x1, x2⟩ := id bx6
              have hs6 := hsa.below (hb6.mono (by omega))
              have hyl6 := ht6.len
              have hz6 := hb6.size
              by_cases hqt : q < s.after.length
              · obtain ⟨ad3, rfl, had3, hc3⟩ := hs6.at_ hqt
                have hxs3 := hs6.lens q hqt
                have hi3 : (0 : Int) ≤ q := by omega
                have hi4 : (q : Int) < s.after.length := by omega
                have Hn3 := Lib.hid (sbK_next hqt hg6.out)
                have K2 := Lib.hid (l1At_any A6 c6 zs s.after[q] wr _ ho6.strs)
                have hdec := place_dec zs s.after[q]
                generalize place zs s.after[q] = P2 at *
                cases hT : has zs s.after[q]
                · rw [hT] at hdec Hn3
                  clear hT hg6
                  go_wp2_with (go_at_call 18; (with_reducible refine K2.out.mono ?_); rintro e w' ⟨rfl, rfl⟩)
                  go_roundw
                  case rel => exact ⟨q + 1, A6, c6, zs, by omega, by go_num, rfl, ho6, ht6, Hn3, bx6, hb6⟩
                  case measure => simp [intOf]; omega
                · rw [hT] at hdec Hn3
                  have ht7 := hTP.out _ ht6
                  clear hT hg6
                  go_wp2_with (go_at_call 18; (with_reducible refine K2.out.mono ?_); rintro e w' ⟨rfl, rfl⟩)
                  (with_reducible refine (l1Put_any A6 c6 zs s.name _ _ ho6.strs hns (by omega)).mono ?_)
                  rintro e w7 ⟨A7, c7, rfl, ho7, hb7⟩
                  have ho8 := ho7.base_ (base' := w.heap.size + 1) (by omega)
                  have bx7 := bx6.then_ hb7
                  have hb8 := bthen hb6 hb7
                  clear x0 x1 x2
                  go_wp2_with fail
                  go_roundw
                  case rel => exact ⟨q + 1, A7, c7, putIn zs s.name, by omega, by go_num, rfl, ho8, ht7, Hn3, bx7, hb8⟩
                  case measure => simp [intOf]; omega
              · have hqe : q = s.after.length := by omega
                subst hqe
                have hfin := hg6.out
                rw [List.drop_length] at hfin
                have hfin2 : zs = Y := hfin
                rw [← hfin2] at Hn
                have hbN := hb.trans (hb6.mono (by omega))
                clear hg6 hfin hfin2
                go_wp2_with fail
                go_roundw
                case rel => exact ⟨j + 1, A6, c6, zs, by omega, by go_num, rfl, ho6, ht6, Hn, hbN⟩
                case measure => simp [intOf]; omega
        · have hje : j = ss.length := by omega
          subst hje
          have hfin := hgo.out
          rw [List.drop_length] at hfin
          have hfin2 : ys = sbN nm ss (n + 1) := hfin
          subst hfin2
          clear hgo hfin
          go_wp2_with fail
          go_roundw
          case rel => exact ⟨n + 1, A', c', by omega, by go_num, rfl, ho, htl, hb⟩
          case measure => simp [intOf]; omega
    · have hne : n = ss.length := by omega
      subst hne
      have hz9 := hb.size
      go_wp2_with fail
      go_ret
      rw [E.out]
      exact ⟨A', c', rfl, ho.base_ (by omega), b1.trans (hb.mono (by omega))⟩
end Go.Proofs.Ytdjgpoenlmhonaa
