/- FnEventTextNumber returns true for all codes where the listed variables lie as the text lays them: the contract. No other condition. -/
import Derived.Test.YtfodedakhnoplaaDoorTextEv
import Derived.Test.YtfodedakhnoplaaDoorTextSpec
import Derived.Test.YtfodedakhnoplaaDoorDrawNames
import Derived.Test.YtfodedakhnoplaaDoorArgs
import Derived.Test.YtfodedakhnoplaaDoorOrder
namespace Go.Proofs.YtfodedakhnoplaaDoor
set_option linter.unusedVariables false
set_option maxRecDepth 100000
open Go.ChangeShapes Go.WideShapes Go.ChangeAt Go.RowKit

/-- A number and an event are drawn. -/
def DrawnText (w : World) (e : Ending) (w' : World) : Prop :=
  ∃ (n k : Int) (nm : ByteArray), e = .returned (.tuple #[.int .i64 n, .agg #[.int .i64 k, .string nm]]) ∧ nm.size ≤ 6 ∧ Below w.heap.size w w'

set_option maxHeartbeats 4000000 in
theorem drawEventText_any (A : Option Addr) (c : Nat) (zs : List Int) (w : World) (h : Byts w w.heap.size A c zs) :
    Calls Tryd.prog 11 #[.slice A zs.length c] w (DrawnText w) := by
  go_enter Tryd.func11, Tryd.ntmps11
  go_wp2_with fail
  obtain ⟨wi, hwi⟩ : ∃ wi, wi = w.alloc (.cells #[.int .i64 0, .string ⟨#[]⟩] 26) := ⟨_, rfl⟩
  have hwz0 : wi.heap.size = w.heap.size + 1 := by rw [hwi]; simp
  have hres : wi.heap[w.heap.size]? = some (.cells #[.int .i64 0, .string ⟨#[]⟩] 26 (0, 0)) := by rw [hwi]; exact heap_alloc_new w _
  have hwb : Below w.heap.size w wi := by rw [hwi]; exact (Below.refl _ _).alloc (Nat.le_refl _) _
  have hzi : Byts wi wi.heap.size A c zs := by rw [hwi]; exact (h.keep fun p hp => World.cell?_alloc_lt w _ p (by omega)).more (by simp)
  rw [← hwi]
  clear hwi h
  have hwz := Lib.hid hwz0
  clear hwz0
  refine (open_any wi.heap.size A c zs wi hzi (Nat.le_refl _)).mono ?_
  rintro e w1 ⟨zs, rfl, hr1, hb1, hz1⟩
  have hg1 : wi.heap.size < w1.heap.size := by omega
  clear hz1
  go_wp2_with fail
  (with_reducible refine (pick_any wi.heap.size wi.heap.size A c zs 0 _ w1 hr1 (by omega)).mono ?_)
  rintro e w2 ⟨v1, rfl, hv10, hv11, hr2, hg2⟩
  go_wp2_with fail
  (with_reducible refine (pick_any wi.heap.size wi.heap.size A c zs (0 + 1) _ w2 hr2 (by omega)).mono ?_)
  rintro e w3 ⟨v2, rfl, hv20, hv21, hr3, hg3⟩
  go_wp2_with fail
  (with_reducible refine (pick_any wi.heap.size wi.heap.size A c zs (0 + 1 + 1) _ w3 hr3 (by omega)).mono ?_)
  rintro e w4 ⟨v3, rfl, hv30, hv31, hr4, hg4⟩
  go_wp2_with fail
  (with_reducible refine (l91Name_any wi.heap.size wi.heap.size A c zs (0 + 1 + 1 + 1) w4 hr4 (by omega)).mono ?_)
  rintro e w5 ⟨nm, p5, rfl, hn6, hp5, hr5, hg5⟩
  have hg := grown_trans (grown_trans (grown_trans hg2 hg3) hg4) hg5
  have hb5 : Below wi.heap.size wi w5 := hb1.trans (grown_below hg (Nat.le_refl _) hb1.size)
  have hz5 := hwz.out
  have hres5 := (hb5.block w.heap.size (by omega)).trans hres
  have r0 : w5.cell? ⟨w.heap.size, 0, none⟩ = some (.int .i64 0) := by rw [cell_of_row w5 w.heap.size 0 _ _ (0, 0) hres5]; rfl
  have r1 : w5.cell? ⟨w.heap.size, 1, none⟩ = some (.string ⟨#[]⟩) := by rw [cell_of_row w5 w.heap.size 1 _ _ (0, 0) hres5]; rfl
  have rf : ∀ i, w5.frozen? ⟨w.heap.size, i, none⟩ = false := fun i => by simp [World.frozen?, hres5]
  have hfb := Lib.hid (((hwb.trans (hb5.mono (by omega))).setCell (p := ⟨w.heap.size, 0, none⟩) (Nat.le_refl _) (.int .i64 (1 + v3))).setCell (p := ⟨w.heap.size, 1, none⟩) (Nat.le_refl _) (.string nm))
  clear hz5 hres5 hb5 hg hg2 hg3 hg4 hg5 hr1 hr2 hr3 hr4 hr5 hres hwb hb1
  go_wp2_with fail
  refine bodyPost_ret (v := .tuple #[.int .i64 (1 + v1 - v2 / 19 * 20), .agg #[.int .i64 (1 + v3), .string nm]]) (by simp [results, Tryd.results11, go_sem, r0, r1]) rfl ?_
  exact ⟨_, 1 + v3, nm, rfl, hn6, hfb.out⟩

set_option maxHeartbeats 4000000 in
theorem eventTextNumber_law (W : World) (v : Value) (h : IsCode W v) (hL : LaidF W.heap.size W) : Calls Tryd.prog 5 #[v] W fun e W' => e = .returned (.bool true) ∧ Below W.heap.size W W' := by
  obtain ⟨A, c, zs, rfl, hz⟩ := h
  have hl := hz.len
  have hc := hz.cap
  by_cases h20 : 1048576 < zs.length
  · go_enter Tryd.func5, Tryd.ntmps5
    go_wp2
    go_ret
    exact ⟨rfl, Below.refl _ _⟩
  go_enter Tryd.func5, Tryd.ntmps5
  go_wp2_with fail
  (with_reducible refine (drawEventText_any A c zs W hz).mono ?_)
  rintro e w1 ⟨n, k, nm, rfl, hn6, b1⟩
  have hn9 : nm.size ≤ 9223372036854775807 := by omega
  have bx : Below w1.heap.size w1 (w1.alloc (.cells #[.int .i64 k, .string nm] 26)) := (Below.refl _ _).alloc (Nat.le_refl _) _
  have L1 := hL.on (bthen b1 bx)
  go_wp2_with fail
  (with_reducible refine (iEventText_any n k nm _ _ L1 (bthen b1 bx).size hn9).mono ?_)
  rintro e w2 ⟨rfl, hr2⟩
  have hb2 : Below w1.heap.size w1 w2 := bthen bx hr2
  have q2 := (Cell2.new w1 (.int .i64 k) (.string nm) 26).then_ hr2
  have b2 := bthen b1 hb2
  clear L1 bx hr2
  obtain ⟨p0, p1⟩ := id q2
  go_wp2_with fail
  (with_reducible refine (sEventText_any n k nm _ hn9).mono ?_)
  rintro e w3 ⟨rfl, hb3⟩
  have q3 := q2.then_ hb3
  have b3 := bthen b2 hb3
  have hql := q3.lt
  obtain ⟨T, hT⟩ : ∃ T, T = textB n k nm := ⟨_, rfl⟩
  rw [← hT]
  have e1 : (T.toList != T.toList) = false := by simp
  have e2 : (T.toList == T.toList) = true := by simp
  clear q2 b2 hb3 p0 p1 b1 hb2
  obtain ⟨p0, p1⟩ := id q3
  cases hok : lineOk n k nm
  · have hTe : T = ⟨#[]⟩ := by rw [hT, textB_no hok]
    subst hTe
    clear hok hT
    go_wp2_with fail
    go_ret
    exact ⟨rfl, b3⟩
  · have hne : T ≠ ⟨#[]⟩ := by rw [hT, textB_yes hok]; exact line_some _ _ _
    have hne2 : (T.toList == []) = false := by
      cases hq : (T.toList == [])
      · rfl
      · exact absurd (str_eq (b := ⟨#[]⟩) (by rw [show (⟨#[]⟩ : ByteArray).toList = [] by rw [ByteArray.toList_eq]]; exact hq)) hne
    obtain ⟨hp1, hp2, hev⟩ := lineOk_parts hok
    obtain ⟨hk1, hk3, _⟩ := evOk_parts hev
    have hnum := text_number hok
    have hkind := text_kind hok
    rw [← hT] at hnum hkind
    obtain ⟨X, hX⟩ : ∃ X, X = textB (n + 1) k nm := ⟨_, rfl⟩
    obtain ⟨Y, hY⟩ : ∃ Y, Y = textB n (k + 1) nm := ⟨_, rfl⟩
    rw [← hX] at hnum
    rw [← hY] at hkind
    have f1 : (X.toList != T.toList) = true := by rw [bne_iff_ne]; intro e; exact hnum (toList_inj e)
    have f2 : (Y.toList != T.toList) = true := by rw [bne_iff_ne]; intro e; exact hkind (toList_inj e)
    have f3 : (X.toList == T.toList) = false := by
      cases hq : (X.toList == T.toList)
      · rfl
      · exact absurd (str_eq hq) hnum
    have f4 : (Y.toList == T.toList) = false := by
      cases hq : (Y.toList == T.toList)
      · rfl
      · exact absurd (str_eq hq) hkind
    have bx : Below w3.heap.size w3 (w3.alloc (.cells #[.int .i64 (k + 1), .string nm] 26)) := (Below.refl _ _).alloc (Nat.le_refl _) _
    have b4 := bthen b3 bx
    have KX0 := iEventText_any (n + 1) k nm _ _ (hL.on b4) b4.size hn9
    rw [← hX] at KX0
    have KX := Lib.hid KX0
    have qx := Cell2.new w3 (.int .i64 (k + 1)) (.string nm) 26
    have KY := Lib.hid (fun w' (hb : Below (w3.alloc (.cells #[.int .i64 (k + 1), .string nm] 26)).heap.size (w3.alloc (.cells #[.int .i64 (k + 1), .string nm] 26)) w') => And.intro (qx.then_ hb) (And.intro (hY.symm ▸ iEventText_any n (k + 1) nm w' _ (hL.on (bthen b4 hb)) (bthen b4 hb).size hn9) (bthen b4 hb)))
    clear hnum hkind hX hY hT hok hev hne KX0 qx bx b4
    go_wp2_with fail
    (with_reducible refine KX.out.mono ?_)
    rintro e w5 ⟨rfl, hb5⟩
    obtain ⟨⟨y0, y1⟩, hky, b5⟩ := KY.out _ hb5
    clear KX KY
    go_wp2_with fail
    (with_reducible refine hky.mono ?_)
    rintro e w6 ⟨rfl, hb6⟩
    go_wp2_with fail
    go_ret
    exact ⟨rfl, bthen b5 hb6⟩
end Go.Proofs.YtfodedakhnoplaaDoor
