/- The document's List. -/
import Derived.Test.YtnkkhdcjbjiimaaDoorCastW
import Derived.Test.YtnkkhdcjbjiimaaDoorCastG
namespace Go.Proofs.YtnkkhdcjbjiimaaDoor
open Go.RowKit Go.Sort

theorem d14may_any (c : Nat → Int) (t d : Nat) (w : World) (hc : PosOk c) (ht : t < 2) (hd : d < 2) (hct : c 78 = (t : Int)) :
    Calls Tryd.prog 41 #[.agg (posC c), .int .i64 (d : Int)] w fun e w' => e = .returned (T.mayV (T.dMay c t d)) ∧ Below w.heap.size w w' := by
  rcases (show t = 0 ∨ t = 1 by omega) with rfl | rfl <;> rcases (show d = 0 ∨ d = 1 by omega) with rfl | rfl
  · exact d14may_00 c w hc hct
  · exact d14may_01 c w hc hct
  · exact d14may_10 c w hc hct
  · exact d14may_11 c w hc hct

set_option maxRecDepth 100000 in
theorem d14may_out (c : Nat → Int) (d : Int) (w : World) (ht : 1 < c 78) :
    Calls Tryd.prog 41 #[.agg (posC c), .int .i64 d] w fun e w' => e = .returned (T.mayV none) ∧ Below w.heap.size w w' := by
  have hb0 : Below w.heap.size w (w.alloc (.cells (posC c) 31)) := (Below.refl _ _).alloc (Nat.le_refl _) _
  have hp := PosAt.new w c
  have h78 := hp.cell (i := 78) (by decide)
  rw [show pk 78 = .u8 from rfl] at h78
  go_enter Tryd.func41, Tryd.ntmps41
  go_wp2
  go_ret3
  exact ⟨rfl, hb0⟩

namespace T
/-- What the document tells of one side. -/
def dRes (c : Nat → Int) (d : Nat) : Option (Nat × Nat) := if c 78 ≤ 1 then dMay c (c 78).toNat d else none
def dOut (c : Nat → Int) : Nat → List (Nat × Nat)
  | 0 => []
  | n + 1 => dOut c n ++ (dRes c (1 - n)).toList
theorem dOut_two (c : Nat → Int) (h0 : 0 ≤ c 78) : dOut c 2 = dlist c := by
  unfold dOut dOut dOut dlist dRes
  by_cases h : c 78 ≤ 1
  · rw [if_pos h, if_pos h, if_pos ⟨h0, h⟩]
    simp only [List.filterMap_cons, List.filterMap_nil]
    cases dMay c (c 78).toNat (1 - 0) <;> cases dMay c (c 78).toNat (1 - 1) <;> rfl
  · rw [if_neg h, if_neg h, if_neg (fun k => h k.2)]; rfl
theorem dOut_len (c : Nat → Int) : ∀ n, (dOut c n).length ≤ n
  | 0 => Nat.le_refl _
  | n + 1 => by
    have := dOut_len c n
    rw [dOut, List.length_append]
    cases dRes c (1 - n) <;> simp <;> omega
theorem dRes_lt (c : Nat → Int) (d : Nat) (x : Nat × Nat) (h : dRes c d = some x) : x.1 < 64 ∧ x.2 < 64 := by
  unfold dRes at h
  split at h
  · unfold dMay at h
    split at h
    · cases h
    · split at h
      · cases h
      · split at h
        · cases h
        · split at h
          · cases h
            simp only
            unfold rk
            omega
          · cases h
  · cases h
end T
theorem d14may_res (c : Nat → Int) (d : Nat) (w : World) (hc : PosOk c) (hd : d < 2) :
    Calls Tryd.prog 41 #[.agg (posC c), .int .i64 (d : Int)] w fun e w' => e = .returned (T.mayV (T.dRes c d)) ∧ Below w.heap.size w w' := by
  obtain ⟨v0, v1⟩ := pos_u8 hc (i := 78) (by decide) rfl
  unfold T.dRes
  by_cases h : c 78 ≤ 1
  · rw [if_pos h]
    exact d14may_any c (c 78).toNat d w hc (by omega) hd (by omega)
  · rw [if_neg h]
    exact d14may_out c d w (by omega)
theorem d14may_val (c : Nat → Int) (d : Nat) (o : Option (Nat × Nat)) (w : World) (hc : PosOk c) (hd : d < 2) (h : T.dRes c d = o) :
    Calls Tryd.prog 41 #[.agg (posC c), .int .i64 (d : Int)] w fun e w' => e = .returned (T.mayV o) ∧ Below w.heap.size w w' := by
  rw [← h]; exact d14may_res c d w hc hd

set_option maxRecDepth 100000 in
set_option maxHeartbeats 2000000 in
theorem d14list_any (c : Nat → Int) (w : World) (hc : PosOk c) :
    Calls Tryd.prog 15 #[.agg (posC c)] w (T.End (T.dlist c) w) := by
  rw [← T.dOut_two c (pos_u8 hc (i := 78) (by decide) rfl).1]
  have hb0 : Below w.heap.size w (w.alloc (.cells (posC c) 31)) := (Below.refl _ _).alloc (Nat.le_refl _) _
  have hp := PosAt.new w c
  have HC := Lib.hid hc
  clear hc
  have H0 := Lib.hid (And.intro hp hb0)
  clear hp hb0
  go_enter Tryd.func15, Tryd.ntmps15
  go_wp2
  obtain ⟨i0, hi, hz0, hz1, hz2⟩ := info_parts Tryd.info_Move
  go_loopw [3, 4] (fun x i wr => ∃ n : Nat, n ≤ 2 ∧ i = .int .i64 (1 - (n : Int)) ∧ wr.ownsRow (w.heap.size + 1) 36 5 x (T.dOut c n).length (T.cells (T.dOut c n)) ∧ PosAt wr w.heap.size c ∧ Below w.heap.size w wr) (fun _ i _ => (intOf i + 1).toNat)
  case atStart => exact ⟨0, by omega, rfl, World.ownsRow_nil _ _ _ _, H0.out.1, H0.out.2⟩
  case round =>
    obtain ⟨n, hn, rfl, hown, hp, hbr⟩ := hrel
    rcases (show n = 0 ∨ n = 1 ∨ n = 2 by omega) with rfl | rfl | rfl
    · have hlen := T.dOut_len c 0
      obtain ⟨o, ho⟩ : ∃ o, T.dRes c 1 = o := ⟨_, rfl⟩
      have hst : T.dOut c (0 + 1) = T.dOut c 0 ++ o.toList := by rw [← ho]; rfl
      have hlt := fun x (hx : o = some x) => T.dRes_lt c 1 x (ho.trans hx)
      have HM := Lib.hid (fun W => d14may_val c 1 o W HC.out (by decide) ho)
      clear ho
      cases o with
      | none =>
        unfold T.mayV at HM
        go_wp2_with (first
          | ((with_reducible refine wp_load_box rfl _ rfl ?_); refine ⟨_, _, rfl, (by first | assumption | exact hp.alloc _), ?_⟩)
          | (go_at_call 41; refine (HM.out _).mono ?_; rintro e u1 ⟨rfl, hb⟩; replace hp := hp.below hb; replace hown := owns_below hown hb; replace hbr := below_next hbr hb; clear hb))
        exact ⟨⟨0 + 1, by omega, by rfl, by rw [hst]; simpa using hown, hp, hbr⟩, by simp [intOf]⟩
      | some x =>
        obtain ⟨k, s⟩ := x
        obtain ⟨hk, hs⟩ := hlt _ rfl
        simp only at hk hs
        have w8k : IntKind.i8.wrap (k : Int) = (k : Int) := by unfold IntKind.wrap; simp [IntKind.bits, IntKind.signed]; omega
        have w8s : IntKind.i8.wrap (s : Int) = (s : Int) := by unfold IntKind.wrap; simp [IntKind.bits, IntKind.signed]; omega
        unfold T.mayV at HM
        go_wp2_with (first
          | ((with_reducible refine wp_load_box rfl _ rfl ?_); refine ⟨_, _, rfl, (by first | assumption | exact hp.alloc _), ?_⟩)
          | (go_at_call 41; refine (HM.out _).mono ?_; rintro e u1 ⟨rfl, hb⟩; replace hp := hp.below hb; replace hown := owns_below hown hb; replace hbr := below_next hbr hb; clear hb; have hlp := hp.lt; have hgs := hbr.size)
          | (at_builtin; refine wpList_append_own _ rfl _ _ 32 rfl (w.heap.size + 1) 36 i0 (.agg #[.int .i8 0, .int .i8 0, .int .u8 0, .int .u8 0, .bool false]) 5 5 Tryd.underlying32 hi hz0 hz1 hz2 rfl (by decide) _ _ _ rfl (hown.alloc _) ⟨_, 0, none⟩ 1 1 (T.movL (k, s)) rfl rfl (row_add (RowAt.new u1 (T.movL (k, s)).toArray 36)) (by intro q hq; simp [T.movL] at hq; rcases hq with rfl | rfl | rfl | rfl <;> rfl) (by unfold maxLen; omega) (by omega) (by simp; omega) ?_; intro v' w1 hown' hgrow _))
        refine ⟨⟨0 + 1, by omega, by rfl, ?_, ?_, ?_⟩, by simp [intOf]⟩
        · rw [hst]
          show World.ownsRow _ _ _ _ _ (T.dOut c 0 ++ [(k, s)]).length (T.cells (T.dOut c 0 ++ [(k, s)]))
          rw [T.cells_snoc, List.length_append]; exact hown'
        · exact (hp.alloc _).grown hgrow (fun q hq => by have := (hown.lt q hq).1; omega)
        · exact (hbr.alloc hbr.size _).grown hgrow (by simp; omega) (fun q hq => by have := (hown.lt q hq).1; omega)
    · have hlen := T.dOut_len c 1
      obtain ⟨o, ho⟩ : ∃ o, T.dRes c 0 = o := ⟨_, rfl⟩
      have hst : T.dOut c (1 + 1) = T.dOut c 1 ++ o.toList := by rw [← ho]; rfl
      have hlt := fun x (hx : o = some x) => T.dRes_lt c 0 x (ho.trans hx)
      have HM := Lib.hid (fun W => d14may_val c 0 o W HC.out (by decide) ho)
      clear ho
      cases o with
      | none =>
        unfold T.mayV at HM
        go_wp2_with (first
          | ((with_reducible refine wp_load_box rfl _ rfl ?_); refine ⟨_, _, rfl, (by first | assumption | exact hp.alloc _), ?_⟩)
          | (go_at_call 41; refine (HM.out _).mono ?_; rintro e u1 ⟨rfl, hb⟩; replace hp := hp.below hb; replace hown := owns_below hown hb; replace hbr := below_next hbr hb; clear hb))
        exact ⟨⟨1 + 1, by omega, by rfl, by rw [hst]; simpa using hown, hp, hbr⟩, by simp [intOf]⟩
      | some x =>
        obtain ⟨k, s⟩ := x
        obtain ⟨hk, hs⟩ := hlt _ rfl
        simp only at hk hs
        have w8k : IntKind.i8.wrap (k : Int) = (k : Int) := by unfold IntKind.wrap; simp [IntKind.bits, IntKind.signed]; omega
        have w8s : IntKind.i8.wrap (s : Int) = (s : Int) := by unfold IntKind.wrap; simp [IntKind.bits, IntKind.signed]; omega
        unfold T.mayV at HM
        go_wp2_with (first
          | ((with_reducible refine wp_load_box rfl _ rfl ?_); refine ⟨_, _, rfl, (by first | assumption | exact hp.alloc _), ?_⟩)
          | (go_at_call 41; refine (HM.out _).mono ?_; rintro e u1 ⟨rfl, hb⟩; replace hp := hp.below hb; replace hown := owns_below hown hb; replace hbr := below_next hbr hb; clear hb; have hlp := hp.lt; have hgs := hbr.size)
          | (at_builtin; refine wpList_append_own _ rfl _ _ 32 rfl (w.heap.size + 1) 36 i0 (.agg #[.int .i8 0, .int .i8 0, .int .u8 0, .int .u8 0, .bool false]) 5 5 Tryd.underlying32 hi hz0 hz1 hz2 rfl (by decide) _ _ _ rfl (hown.alloc _) ⟨_, 0, none⟩ 1 1 (T.movL (k, s)) rfl rfl (row_add (RowAt.new u1 (T.movL (k, s)).toArray 36)) (by intro q hq; simp [T.movL] at hq; rcases hq with rfl | rfl | rfl | rfl <;> rfl) (by unfold maxLen; omega) (by omega) (by simp; omega) ?_; intro v' w1 hown' hgrow _))
        refine ⟨⟨1 + 1, by omega, by rfl, ?_, ?_, ?_⟩, by simp [intOf]⟩
        · rw [hst]
          show World.ownsRow _ _ _ _ _ (T.dOut c 1 ++ [(k, s)]).length (T.cells (T.dOut c 1 ++ [(k, s)]))
          rw [T.cells_snoc, List.length_append]; exact hown'
        · exact (hp.alloc _).grown hgrow (fun q hq => by have := (hown.lt q hq).1; omega)
        · exact (hbr.alloc hbr.size _).grown hgrow (by simp; omega) (fun q hq => by have := (hown.lt q hq).1; omega)
    · go_wp2
      go_ret
      exact ⟨_, rfl, hown, hbr⟩

end Go.Proofs.YtnkkhdcjbjiimaaDoor
