/- FnEventDamage returns true for all codes where the listed variables lie as the text lays them and the library's MaxLen holds a number: the contract. No other condition. -/
import Derived.Test.YtfodedakhnoplaaDoorFromW
import Derived.Test.YtfodedakhnoplaaDoorDamage
import Derived.Test.YtfodedakhnoplaaDoorDrawText
import Derived.Test.YtfodedakhnoplaaDoorJournal
import Derived.Lib.ConvBytes
import Derived.Shelf.Spec.RuneCount
namespace Go.Proofs.YtfodedakhnoplaaDoor
set_option linter.unusedVariables false
set_option maxRecDepth 100000
open Go.ChangeShapes Go.WideShapes Go.ChangeAt Go.RowKit

theorem damaged_cells (w : World) (b : Nat) (T : ByteArray) (i : Nat) (hi : i < T.size) (y : UInt8) (h : ∀ j, j < T.size → w.cell? ⟨b, j, none⟩ = some (.int .u8 ((T.data.toList.getD j 0).toNat : Int))) :
    ∀ j, j < T.size → (w.setCell ⟨b, i, none⟩ (.int .u8 (y.toNat : Int))).cell? ⟨b, 0 + j, none⟩ = some (.int .u8 (((T.data.toList.set i y).map fun x => (x.toNat : Int)).getD j 0)) := by
  intro j hj
  have hi' : i < T.data.toList.length := by rw [size_toList]; exact hi
  have hj' : j < T.data.toList.length := by rw [size_toList]; exact hj
  rw [Nat.zero_add]
  by_cases e : j = i
  · subst e
    rw [World.cell?_setCell_same _ _ _ (h j hj)]
    simp only [List.getD, List.getElem?_map, List.getElem?_set_self hj', Option.map_some, Option.getD_some]
  · rw [World.cell?_setCell_other _ _ _ _ (by intro q; injection q with _ q; exact e q.symm), h j hj]
    simp only [List.getD, List.getElem?_map, List.getElem?_set_ne (Ne.symm e), List.getElem?_eq_getElem hj', Option.map_some, Option.getD_some]
theorem conv_damaged (w : World) (b cap : Nat) (T : ByteArray) (i : Nat) (hi : i < T.size) (y : UInt8) (h : ∀ j, j < T.size → w.cell? ⟨b, j, none⟩ = some (.int .u8 ((T.data.toList.getD j 0).toNat : Int))) :
    (convert 29 9 (.slice (some ⟨b, 0, none⟩) T.size cap)).run Tryd.prog (w.setCell ⟨b, i, none⟩ (.int .u8 (y.toNat : Int))) = .ok (.string ⟨(T.data.toList.set i y).toArray⟩) (w.setCell ⟨b, i, none⟩ (.int .u8 (y.toNat : Int))) := by
  have K := run_convert_bytes_arg (P := Tryd.prog) (w.setCell ⟨b, i, none⟩ (.int .u8 (y.toNat : Int))) 29 5 Tryd.underlying29 Tryd.underlying5 b 0 T.size cap ((T.data.toList.set i y).map fun x => (x.toNat : Int)) (by rw [List.length_map, List.length_set, size_toList]) (damaged_cells w b T i hi y h) 9 Tryd.underlying9
  have e : strOfNums ((T.data.toList.set i y).map fun x => (x.toNat : Int)) = ⟨(T.data.toList.set i y).toArray⟩ := by
    apply ByteArray.ext
    apply Array.toList_inj.1
    rw [strOfNums_data, List.map_map]
    show _ = T.data.toList.set i y
    conv => rhs; rw [← List.map_id (T.data.toList.set i y)]
    apply List.map_congr_left
    intro x _
    simp
  rw [e] at K
  exact K

set_option maxHeartbeats 1000000 in
theorem eventDamage_law (W : World) (v0 v1 : Value) (h0 : IsCode W v0) (h1 : IsCode W v1) (hL : LaidD W.heap.size W) : Calls Tryd.prog 4 #[v0, v1] W fun e W' => e = .returned (.bool true) ∧ Below W.heap.size W W' := by
  obtain ⟨A, c, zs, rfl, hz⟩ := h0
  obtain ⟨A2, d, zs2, rfl, hz2⟩ := h1
  have hl := hz.len
  have hc := hz.cap
  have hl2 := hz2.len
  have hc2 := hz2.cap
  by_cases h20 : 1048576 < zs.length
  · go_enter Tryd.func4, Tryd.ntmps4
    go_wp2
    go_ret
    exact ⟨rfl, Below.refl _ _⟩
  by_cases h21 : 1048576 < zs2.length
  · go_enter Tryd.func4, Tryd.ntmps4
    go_wp2
    go_ret
    exact ⟨rfl, Below.refl _ _⟩
  go_enter Tryd.func4, Tryd.ntmps4
  go_wp2_with fail
  (with_reducible refine (drawEventText_any A c zs W hz).mono ?_)
  rintro e w1 ⟨n, k, nm, rfl, hn6, b1⟩
  have hn9 : nm.size ≤ 9223372036854775807 := by omega
  have bx : Below w1.heap.size w1 (w1.alloc (.cells #[.int .i64 k, .string nm] 26)) := (Below.refl _ _).alloc (Nat.le_refl _) _
  have L1 := hL.toF.on (bthen b1 bx)
  go_wp2_with fail
  (with_reducible refine (iEventText_any n k nm _ _ L1 (bthen b1 bx).size hn9).mono ?_)
  rintro e w2 ⟨rfl, hr2⟩
  have hb2 : Below w1.heap.size w1 w2 := bthen bx hr2
  have q2 := (Cell2.new w1 (.int .i64 k) (.string nm) 26).then_ hr2
  have b2 := bthen b1 hb2
  clear L1 bx hr2
  obtain ⟨p0, p1⟩ := id q2
  go_wp2_with fail
  (with_reducible refine (sEventText_any n k nm _ hn9).mono ?_)
  rintro e w3 ⟨rfl, hb3⟩
  have b3 := bthen b2 hb3
  obtain ⟨T, hT⟩ : ∃ T, T = textB n k nm := ⟨_, rfl⟩
  have hts := textB_size n k nm
  rw [← hT] at hts
  rw [← hT]
  have e1 : (T.toList != T.toList) = false := by simp
  have e2 : (T.toList == T.toList) = true := by simp
  clear q2 b2 hb3 p0 p1 b1 hb2
  cases hok : lineOk n k nm
  · have hTe : T = ⟨#[]⟩ := by rw [hT, textB_no hok]
    subst hTe
    clear hok hT
    go_wp2_with fail
    go_ret
    exact ⟨rfl, b3⟩
  · have hne : T ≠ ⟨#[]⟩ := by rw [hT, textB_yes hok]; exact line_some _ _ _
    have hne2 : (T.toList == []) = false := by
      cases hq : (T.toList == [])
      · rfl
      · exact absurd (str_eq (b := ⟨#[]⟩) (by rw [show (⟨#[]⟩ : ByteArray).toList = [] by rw [ByteArray.toList_eq]]; exact hq)) hne
    have hpos : 0 < T.size := by
      rcases Nat.eq_zero_or_pos T.size with h | h
      · exact absurd (ByteArray.size_eq_zero_iff.1 h) hne
      · exact h
    obtain ⟨i, hi⟩ : ∃ i, i = zs2.length % T.size := ⟨_, rfl⟩
    have hit : i < T.size := by rw [hi]; exact Nat.mod_lt _ hpos
    have hbt := text_byte hok i (by rw [← hT]; exact hit)
    obtain ⟨x, hx⟩ : ∃ x, x = (textB n k nm)[i]'(by rw [← hT]; exact hit) := ⟨_, rfl⟩
    have hdam := text_damage hok i (by rw [← hT]; exact hit) (UInt8.ofNat (x.toNat + 1)) (by rw [← hx]; rw [← hx] at hbt; simp; omega)
    rw [← hx] at hbt
    have hx2 : (T.data.toList.getD i 0) = x := by
      subst hT
      rw [hx, List.getD, List.getElem?_eq_getElem (by rw [size_toList]; exact hit), Option.getD_some]
      simp; rfl
    rw [← hT] at hdam
    have HD := Lib.hid (hdam ⟨(T.data.toList.set i (UInt8.ofNat (x.toNat + 1))).toArray⟩ (by simp))
    have hy : ((UInt8.ofNat (x.toNat + 1)).toNat : Int) = (x.toNat : Int) + 1 := by
      have : (UInt8.ofNat (x.toNat + 1)).toNat = x.toNat + 1 := by simp; omega
      omega
    have hrem : (zs2.length : Int).tmod (T.size : Int) = (i : Int) := by
      rw [Int.tmod_eq_emod_of_nonneg (by omega), hi]
      omega
    have hn0 : ¬ (T.size : Int) = 0 := by omega
    have hwr : IntKind.i64.wrap (i : Int) = (i : Int) := IntWalk.i64_in _ (by omega)
    obtain ⟨w4, hw4⟩ : ∃ w4, w4 = Lib.bytesWorld w3 5 T := ⟨_, rfl⟩
    have hcv := Lib.run_convert_string_bytes (P := Tryd.prog) w3 9 29 5 T Tryd.underlying9 Tryd.underlying29 Tryd.underlying5
    have hcells : ∀ j, j < T.size → w4.cell? ⟨w3.heap.size, j, none⟩ = some (.int .u8 ((T.data.toList.getD j 0).toNat : Int)) := fun j hj => by rw [hw4]; exact Lib.bytesWorld_cell w3 _ T j hj
    have hfz : w4.frozen? ⟨w3.heap.size, i, none⟩ = false := by
      rw [hw4]
      have hbc : T.size ≤ (Lib.bytesCells w3 5 T).size := by
        unfold Lib.bytesCells
        rw [Array.size_append, Array.size_map]
        show T.data.size ≤ _
        omega
      simp [World.frozen?, Lib.bytesWorld_at_new]
      omega
    have hb4 : Below W.heap.size W w4 := bthen b3 (by rw [hw4]; exact Lib.bytesWorld_below _ _ _)
    have hzw4 : w3.heap.size < w4.heap.size := by rw [hw4, Lib.bytesWorld_size]; omega
    rw [← hw4] at hcv
    have hci := hcells i hit
    rw [hx2] at hci
    have hCV := conv_damaged w4 w3.heap.size (grownCap w3 T.size 0 5) T i hit (UInt8.ofNat (x.toNat + 1)) hcells
    rw [hy] at hCV
    obtain ⟨T2, hT2⟩ : ∃ T2 : ByteArray, T2 = ⟨(T.data.toList.set i (UInt8.ofNat (x.toNat + 1))).toArray⟩ := ⟨_, rfl⟩
    have hs2 : T2.size < 4294967281 := by
      have : T2.size = T.size := by rw [hT2, ← size_toList, ← size_toList]; simp
      omega
    rw [← hT2] at HD hCV
    have hb5 := hb4.setCell (p := ⟨w3.heap.size, i, none⟩) b3.size (.int .u8 ((x.toNat : Int) + 1))
    have KF := Lib.hid (eventFrom_any T2 hs2 HD.out (w4.setCell ⟨w3.heap.size, i, none⟩ (.int .u8 ((x.toNat : Int) + 1))) W.heap.size (hL.on hb5) hb5.size)
    have Hb5 := Lib.hid hb5
    obtain ⟨m, hm⟩ : ∃ m : Int, m = (x.toNat : Int) := ⟨_, rfl⟩
    rw [← hm] at hci KF Hb5 hCV
    have hm0 : 0 ≤ m := by omega
    have hm1 : m ≤ 122 := by omega
    have hm2 : ¬ m = 255 := by omega
    have hwm : IntKind.u8.wrap (m + 1) = m + 1 := by rw [IntKind.wrap_u8]; omega
    have hi0 : (0 : Int) ≤ i := by omega
    have hi1 : (i : Int) < T.size := by omega
    clear hok hT hne hdam HD hy hi hx hx2 hbt hm hw4 hcells hT2 hb5 hb4 b3 hzw4 hL
    go_wp2_with fail
    (with_reducible refine KF.out.mono ?_)
    rintro e w6 ⟨rfl, hb6⟩
    go_wp2_with fail
    go_ret
    exact ⟨rfl, (bthen Hb5.out hb6).alloc (bthen Hb5.out hb6).size _⟩
end Go.Proofs.YtfodedakhnoplaaDoor
