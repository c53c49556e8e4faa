/- Contract of the reference's way of putting a name into ascending names. Condition: the list is short. -/
import Derived.Test.YtdjgpoenlmhonaaPutPlain
import Derived.Test.YtdjgpoenlmhonaaAppend
import Derived.Test.YtdjgpoenlmhonaaFlowFns
namespace Go.Proofs.Ytdjgpoenlmhonaa
set_option linter.unusedVariables false
set_option maxRecDepth 100000
open Go.RowKit

theorem put_end {xs ys : List ByteArray} {nm : ByteArray} {d : Bool} (h : ys ++ putGo nm d (xs.drop xs.length) = putIn xs nm) : ys ++ (if d then [] else [nm]) = putIn xs nm := by
  rw [List.drop_length] at h; exact h
theorem put_next {xs ys zs : List ByteArray} {nm : ByteArray} {d d' : Bool} {k : Nat} (hk : k < xs.length) (h : ys ++ putGo nm d (xs.drop k) = putIn xs nm)
    (hz : (if !d && !blt xs[k] nm then [nm] else []) ++ (if xs[k] = nm then [] else [xs[k]]) = zs) (hd : (d || !blt xs[k] nm) = d') : (ys ++ zs) ++ putGo nm d' (xs.drop (k + 1)) = putIn xs nm := by
  rw [List.drop_eq_getElem_cons hk, putGo_step, hd, hz] at h
  rw [← h, List.append_assoc]

set_option maxHeartbeats 4000000 in
theorem l1Put_any (A : Option Addr) (c : Nat) (xs : List ByteArray) (nm : ByteArray) (w : World) (B : Nat) (h : Strs w B A c xs) (hn : nm.size ≤ 9223372036854775807) (hl : xs.length ≤ 1000000) :
    Calls Try.prog 19 #[.slice A xs.length c, .string nm] w (RetStrs (putIn xs nm) w) := by
  have h1 := h.len
  have h2 := h.cap
  have oz := own_lit0 w w.heap.size (Nat.le_refl _)
  go_enter Try.func19, Try.ntmps19
  go_wp2_with fail
  go_loopw [5, 6, 7] (fun o dn i wr => ∃ (k : Nat) (A' : Option Addr) (c' : Nat) (ys : List ByteArray) (d : Bool), k ≤ xs.length ∧ i = .int .i64 k ∧ dn = .bool d ∧ o = .slice A' ys.length c' ∧ OwnStrs wr w.heap.size A' c' ys ∧ Below w.heap.size w wr ∧ Hid (ys ++ putGo nm d (xs.drop k) = putIn xs nm) ∧ ys.length ≤ 2 * k) (fun _ _ i _ => xs.length - (intOf i).toNat)
  case atStart => exact ⟨0, some ⟨w.heap.size, 0, none⟩, 0, [], false, Nat.zero_le _, rfl, rfl, rfl, oz, (Below.refl _ _).alloc (Nat.le_refl _) _, Lib.hid rfl, Nat.zero_le _⟩
  case round =>
    clear oz
    obtain ⟨k, A', c', ys, d, hk, rfl, rfl, rfl, ho, hb, hgo, hyl⟩ := hrel
    have hbs := hb.size
    by_cases hlt : k < xs.length
    · obtain ⟨ad, rfl, had, hc⟩ := (h.then_ hb).at_ hlt
      have hxs := h.lens k hlt
      have hi0 : (0 : Int) ≤ k := by omega
      have hi1 : (k : Int) < xs.length := by omega
      have Hn := fun {zs d'} => @put_next xs ys zs nm d d' k hlt hgo.out
      have hcb := World.block_lt_of_cell? _ _ hc
      obtain ⟨x, hx⟩ : ∃ x, x = xs[k] := ⟨_, rfl⟩
      rw [← hx] at hc hxs
      by_cases he : x = nm
      · have hne : (x.toList != nm.toList) = false := by rw [he]; simp
        have hne2 : (x.toList == nm.toList) = true := by rw [he]; simp
        by_cases hp : d = false ∧ blt x nm = false
        · obtain ⟨rfl, hlo⟩ := hp
          have hlo2 : Op.bytesLess x.toList nm.toList = false := hlo
          have HN := Lib.hid (Hn (zs := [nm]) (d' := true) (by rw [← hx, hlo, if_pos he]; rfl) (by rw [← hx, hlo]; rfl))
          have ho2 := ho.alloc (.cells #[.string nm] 9)
          have hc2 := fun wq (hq : Below w.heap.size (wr.alloc (.cells #[.string nm] 9)) wq) => (((Below.refl _ _).alloc hbs _).trans hq).cell (p := ad.add k)
          have hadb : (ad.add k).block < w.heap.size := by rw [block_of_add]; exact had
          clear Hn hx he hlo
          go_wp2_with (at_builtin; (refine wpList_append_name _ rfl (.tmp 25) (.tmp 27) rfl w.heap.size A' c' _ rfl ho2 ⟨wr.heap.size, 0, none⟩ 1 nm rfl (cell_new1 _ _ _) hn (by omega) (by simp; omega) ?_); intro A3 c3 w3 hap; have hc3 := (hc2 w3 hap.low hadb).trans hc)
          go_roundw
          case rel =>
            exact ⟨k + 1, A3, c3, ys ++ [nm], true, by omega, by go_num, rfl, by simp, hap.own, (hb.alloc hbs _).trans hap.low, HN, by simp; omega⟩
          case measure => simp [intOf]; omega
        · have hz : (!d && !blt x nm) = false := by
            cases d
            · cases hq : blt x nm
              · exact absurd ⟨rfl, hq⟩ hp
              · rfl
            · rfl
          have hd : (d || !blt x nm) = d := by
            cases d
            · simpa using hz
            · rfl
          have HN := Lib.hid (Hn (zs := []) (d' := d) (by rw [← hx, hz, if_pos he]; rfl) (by rw [← hx]; exact hd))
          rw [List.append_nil] at HN
          clear Hn hx he hd
          cases d
          · have hlob : blt x nm = true := by simpa using hz
            have hlo2 : Op.bytesLess x.toList nm.toList = true := hlob
            clear hz hp
            go_wp2_with fail
            go_roundw
            case rel => exact ⟨k + 1, A', c', ys, false, by omega, by go_num, rfl, rfl, ho, hb, HN, by omega⟩
            case measure => simp [intOf]; omega
          · clear hz hp
            go_wp2_with fail
            go_roundw
            case rel => exact ⟨k + 1, A', c', ys, true, by omega, by go_num, rfl, rfl, ho, hb, HN, by omega⟩
            case measure => simp [intOf]; omega
      · have hne : (x.toList != nm.toList) = true := by
          rw [bne_iff_ne]; intro e; exact he (toList_inj e)
        have hne2 : (x.toList == nm.toList) = false := by
          cases hq : (x.toList == nm.toList)
          · rfl
          · exact absurd (str_eq hq) he
        by_cases hp : d = false ∧ blt x nm = false
        · obtain ⟨rfl, hlo⟩ := hp
          have hlo2 : Op.bytesLess x.toList nm.toList = false := hlo
          have HN := Lib.hid (Hn (zs := [nm, x]) (d' := true) (by rw [← hx, hlo, if_neg he]; rfl) (by rw [← hx, hlo]; rfl))
          have ho2 := ho.alloc (.cells #[.string nm] 9)
          have hc2 := fun wq (hq : Below w.heap.size (wr.alloc (.cells #[.string nm] 9)) wq) => (((Below.refl _ _).alloc hbs _).trans hq).cell (p := ad.add k)
          have hadb : (ad.add k).block < w.heap.size := by rw [block_of_add]; exact had
          clear Hn hx he hlo
          go_wp2_with (at_builtin; first
            | ((refine wpList_append_name _ rfl (.tmp 25) (.tmp 27) rfl w.heap.size A' c' _ rfl ho2 ⟨wr.heap.size, 0, none⟩ 1 nm rfl (cell_new1 _ _ _) hn (by omega) (by simp; omega) ?_); intro A3 c3 w3 hap; have hc3 := (hc2 w3 hap.low hadb).trans hc; have ho3 := hap.own.alloc (.cells #[.string x] 9); have hz3 := hap.low.size; have hyl3 : (ys ++ [nm]).length = ys.length + 1 := by simp)
            | ((refine wpList_append_name _ rfl (.tmp 35) (.tmp 40) rfl w.heap.size A3 c3 (ys ++ [nm]) (by show Value.slice A3 (ys.length + 1) c3 = Value.slice A3 (ys ++ [nm]).length c3; rw [hyl3]) ho3 ⟨w3.heap.size, 0, none⟩ 1 x rfl (cell_new1 _ _ _) hxs (by omega) (by simp at hz3; simp; omega) ?_); intro A4 c4 w4 hap4))
          go_roundw
          case rel =>
            refine ⟨k + 1, A4, c4, ys ++ [nm, x], true, by omega, by go_num, rfl, by simp, by simpa using hap4.own, ((((hb.alloc hbs _).trans hap.low)).alloc (by simp at hz3; omega) _).trans hap4.low, HN, by simp; omega⟩
          case measure => simp [intOf]; omega
        · have hz : (!d && !blt x nm) = false := by
            cases d
            · cases hq : blt x nm
              · exact absurd ⟨rfl, hq⟩ hp
              · rfl
            · rfl
          have hd : (d || !blt x nm) = d := by
            cases d
            · simpa using hz
            · rfl
          have HN := Lib.hid (Hn (zs := [x]) (d' := d) (by rw [← hx, hz, if_neg he]; rfl) (by rw [← hx]; exact hd))
          have ho2 := ho.alloc (.cells #[.string x] 9)
          clear Hn hx he hd
          cases d
          · have hlob : blt x nm = true := by simpa using hz
            have hlo2 : Op.bytesLess x.toList nm.toList = true := hlob
            clear hz hp
            go_wp2_with (at_builtin; (refine wpList_append_name _ rfl (.tmp 35) (.tmp 40) rfl w.heap.size A' c' _ rfl ho2 ⟨wr.heap.size, 0, none⟩ 1 x rfl (cell_new1 _ _ _) hxs (by omega) (by simp; omega) ?_); intro A3 c3 w3 hap)
            go_roundw
            case rel => exact ⟨k + 1, A3, c3, ys ++ [x], false, by omega, by go_num, rfl, by simp, hap.own, (hb.alloc hbs _).trans hap.low, HN, by simp; omega⟩
            case measure => simp [intOf]; omega
          · clear hz hp
            go_wp2_with (at_builtin; (refine wpList_append_name _ rfl (.tmp 35) (.tmp 40) rfl w.heap.size A' c' _ rfl ho2 ⟨wr.heap.size, 0, none⟩ 1 x rfl (cell_new1 _ _ _) hxs (by omega) (by simp; omega) ?_); intro A3 c3 w3 hap)
            go_roundw
            case rel => exact ⟨k + 1, A3, c3, ys ++ [x], true, by omega, by go_num, rfl, by simp, hap.own, (hb.alloc hbs _).trans hap.low, HN, by simp; omega⟩
            case measure => simp [intOf]; omega
    · have hke : k = xs.length := by omega
      subst hke
      have hend := put_end hgo.out
      cases d
      · have E := Lib.hid (show ys ++ [nm] = putIn xs nm from hend)
        have ho2 := ho.alloc (.cells #[.string nm] 9)
        clear hend hgo
        go_wp2_with (at_builtin; (refine wpList_append_name _ rfl (.tmp 44) (.tmp 46) rfl w.heap.size A' c' _ rfl ho2 ⟨wr.heap.size, 0, none⟩ 1 nm rfl (cell_new1 _ _ _) hn (by omega) (by simp; omega) ?_); intro A3 c3 w3 hap)
        go_ret
        rw [← E.out]
        exact ⟨A3, c3, by simp, hap.own, (hb.alloc hbs _).trans hap.low⟩
      · have E := Lib.hid (show ys = putIn xs nm from (List.append_nil ys).symm.trans hend)
        clear hend hgo
        go_wp2_with fail
        go_ret
        rw [← E.out]
        exact ⟨A', c', rfl, ho, hb⟩
end Go.Proofs.Ytdjgpoenlmhonaa
