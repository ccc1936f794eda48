/- slices.Concat at moves: rows put together. -/
import Derived.Test.YtdcmjbebkmicaaaOrdJ
namespace Go.Proofs.Ytdcmjbebkmicaaa
open Go.RowKit Go.Sort Go.Lib

namespace M
/-- A slice that reads as these moves. -/
def Reads (w : World) (v : Value) (l : List Mv) : Prop :=
  ∃ ao cap, v = .slice ao l.length cap ∧ l.length ≤ cap ∧ cap ≤ maxLen ∧ (ao = none → l.length = 0 ∧ cap = 0) ∧ (0 < l.length → ∃ b off, ao = some ⟨b, off, none⟩ ∧ b < w.heap.size ∧ ∀ j u, (cells l)[j]? = some u → w.cell? ⟨b, off + j, none⟩ = some u)
theorem Reads.below {w w' : World} {v : Value} {l : List Mv} (h : Reads w v l) (hb : Below w.heap.size w w') : Reads w' v l := by
  obtain ⟨ao, cap, h1, h2, h3, h4, h5⟩ := h
  refine ⟨ao, cap, h1, h2, h3, h4, fun h => ?_⟩
  obtain ⟨b, off, k1, k2, k3⟩ := h5 h
  exact ⟨b, off, k1, Nat.lt_of_lt_of_le k2 hb.size, fun j u hu => (hb.cell (p := ⟨b, off + j, none⟩) k2).trans (k3 j u hu)⟩
theorem reads_own {w : World} {base : Nat} {T : TypeId} {v : Value} {l : List Mv} (h : w.ownsRow base T 5 v l.length (cells l)) : Reads w v l := by
  obtain ⟨ao, cap, h1, h2, h3, h4⟩ := row_open h
  refine ⟨ao, cap, h1, h2, h3, fun hn => ?_, fun h0 => ?_⟩
  · have : ¬ 0 < l.length := fun h0 => by obtain ⟨b, e, _⟩ := h4 h0; rw [hn] at e; cases e
    have hz : l.length = 0 := by omega
    refine ⟨hz, ?_⟩
    rcases h.2 with ⟨e, _⟩ | ⟨g, c, cur, e, _⟩
    · rw [h1] at e; injection e
    · rw [h1, hn] at e; injection e with e; cases e
  · obtain ⟨b, e, _, hb, hc⟩ := h4 h0
    exact ⟨b, 0, e, hb, fun j u hu => by rw [Nat.zero_add]; exact hc j u hu⟩
theorem cells_len (l : List Mv) : (cells l).length = l.length * 5 := by
  induction l with
  | nil => rfl
  | cons a l ih => unfold cells at *; rw [List.flatMap_cons, List.length_append, ih]; simp [cell]; omega
theorem cells_app (a b : List Mv) : cells (a ++ b) = cells a ++ cells b := by simp [cells]
theorem cells_one (l : List Mv) : ∀ u ∈ cells l, u.oneCell' = true := by
  intro u hu
  unfold cells at hu
  rw [List.mem_flatMap] at hu
  obtain ⟨x, _, hx⟩ := hu
  simp [cell] at hx
  rcases hx with rfl | rfl | rfl | rfl | rfl <;> rfl
def cat (ps : List (Value × List Mv)) (i : Nat) : List Mv := (ps.take i).flatMap (·.2)
theorem cat_zero (ps : List (Value × List Mv)) : cat ps 0 = [] := rfl
theorem cat_succ {ps : List (Value × List Mv)} {i : Nat} {x : Value × List Mv} (h : ps[i]? = some x) : cat ps (i + 1) = cat ps i ++ x.2 := by
  unfold cat; rw [List.take_add_one, h, List.flatMap_append]; simp
theorem cat_le (ps : List (Value × List Mv)) (i : Nat) : (cat ps i).length ≤ (cat ps ps.length).length := by
  have e : (ps.take i) ++ (ps.drop i) = ps := List.take_append_drop i ps
  unfold cat
  rw [List.take_length]
  conv => rhs; rw [← e]
  rw [List.flatMap_append, List.length_append]
  omega
end M

set_option maxRecDepth 100000 in
set_option maxHeartbeats 1000000 in
theorem concat_any (bp cp : Nat) (ps : List (Value × List Mv)) (w : World) (hcp : ps.length ≤ cp) (hps : ps.length ≤ 100) (hc : ∀ j x, ps[j]? = some x → w.cell? ⟨bp, j, none⟩ = some x.1) (hbp : bp < w.heap.size) (hr : ∀ (j : Nat) (x : Value × List Mv), ps[j]? = some x → M.Reads w x.1 x.2) (hn : (M.cat ps ps.length).length ≤ 100000) :
    Calls Try.prog 57 #[.slice (some ⟨bp, 0, none⟩) ps.length cp] w fun e w' => ∃ v, e = .returned v ∧ w'.ownsRow w.heap.size 33 5 v (M.cat ps ps.length).length (M.cells (M.cat ps ps.length)) ∧ Below w.heap.size w w' := by
  obtain ⟨q, hq⟩ : ∃ q, ps.length = q := ⟨_, rfl⟩
  have Hq := Lib.hid hq
  have HC := Lib.hid (fun W (hb : Below w.heap.size w W) j x (hx : ps[j]? = some x) => (show W.cell? ⟨bp, j, none⟩ = some x.1 from (hb.cell (p := ⟨bp, j, none⟩) hbp).trans (hc j x hx)))
  have HR := Lib.hid (fun W (hb : Below w.heap.size w W) j x (hx : ps[j]? = some x) => (hr j x hx).below hb)
  have HN := Lib.hid hn
  rw [hq] at hcp hps ⊢
  clear hq hc hr hn
  obtain ⟨i0, hi, hz0, hz1, hz2⟩ := info_parts Try.info_MoveO
  go_enter Try.func57, Try.ntmps57
  go_wp2
  go_loopw [3, 11] (fun vs vi wr => ∃ i : Nat, i ≤ q ∧ vi = .int .i64 (i : Int) ∧ vs = .int .i64 ((M.cat ps i).length : Int) ∧ wr = w) (fun _ vi _ => q - (intOf vi).toNat)
  case atStart => exact ⟨0, by omega, rfl, rfl, rfl⟩
  case round =>
    obtain ⟨i, hiq, rfl, rfl, hww⟩ := hrel
    subst wr
    by_cases hlt : i < q
    · obtain ⟨x, hx⟩ : ∃ x, ps[i]? = some x := ⟨_, List.getElem?_eq_getElem (by rw [Hq.out]; exact hlt)⟩
      have h1 := HC.out _ (Below.refl _ _) i x hx
      obtain ⟨ao, cap, e1, h2, h3, h4, h5⟩ := HR.out _ (Below.refl _ _) i x hx
      rw [e1] at h1
      have hs := M.cat_succ hx
      have hl := M.cat_le ps (i + 1)
      have hn := HN.out
      rw [Hq.out] at hn hl
      have hl2 : (M.cat ps (i + 1)).length = (M.cat ps i).length + x.2.length := by rw [hs, List.length_append]
      clear hs e1 h5 h4 hx
      go_wp2
      go_roundw
      case measure => simp [intOf]; omega
      case rel => exact ⟨i + 1, by omega, by go_num, by rw [hl2]; go_num, by first | rfl | trivial⟩
    · obtain rfl : i = q := by omega
      clear hlt hiq
      have hn := HN.out
      rw [Hq.out] at hn
      go_wp2_with (go_at_call 71; refine (grow_any _ _ hn).mono ?_; rintro e w1 ⟨v1, rfl, hown, hb⟩)
      have HB := Lib.hid hb
      obtain ⟨B, hB⟩ : ∃ B, w.heap.size = B := ⟨_, rfl⟩
      rw [hB] at hown hb
      have HBB := Lib.hid hB
      have hbs1 := hb.size
      go_loopw [6, 27] (fun vs vj wr => ∃ (j : Nat) (v : Value), j ≤ i ∧ vj = .int .i64 (j : Int) ∧ vs = v ∧ wr.ownsRow B 33 5 v (M.cat ps j).length (M.cells (M.cat ps j)) ∧ Below B w wr) (fun _ vj _ => i - (intOf vj).toNat)
      case atStart => exact ⟨0, v1, by omega, rfl, rfl, hown, hb⟩
      case round =>
        clear hown hb
        obtain ⟨j, v, hji, rfl, rfl, hown, hb⟩ := hrel
        by_cases hlt : j < i
        · obtain ⟨x, hx⟩ : ∃ x, ps[j]? = some x := ⟨_, List.getElem?_eq_getElem (by rw [Hq.out]; exact hlt)⟩
          have hb' : Below w.heap.size w wr := by rw [HBB.out]; exact hb
          have h1 := HC.out _ hb' j x hx
          obtain ⟨ao, cap, e1, h2, h3, h4, h5⟩ := HR.out _ hb' j x hx
          rw [e1] at h1
          have hs := M.cat_succ hx
          have hl := M.cat_le ps (j + 1)
          rw [Hq.out] at hl
          have hl2 : (M.cat ps (j + 1)).length = (M.cat ps j).length + x.2.length := by rw [hs, List.length_append]
          have hbs : B ≤ wr.heap.size := by have := hb.size; rw [HBB.out] at this; exact this
          have hs2 : M.cells (M.cat ps (j + 1)) = M.cells (M.cat ps j) ++ M.cells x.2 := by rw [hs, M.cells_app]
          have HS := Lib.hid (And.intro hl2 hs2)
          clear hs hs2 hx e1
          by_cases hz : 0 < x.2.length
          · obtain ⟨b, off, rfl, hbb, hcc⟩ := h5 hz
            clear h4
            go_wp2_with (first
          | (at_builtin; refine wpList_append_own _ rfl _ _ 40 rfl B 33 i0 (.agg #[.int .i8 0, .int .i8 0, .int .u8 0, .int .u8 0, .bool false]) 5 5 Try.underlying40 hi hz0 hz1 hz2 rfl (by decide) _ _ _ rfl hown ⟨b, off, none⟩ x.2.length cap (M.cells x.2) rfl (M.cells_len _) (fun j u hu => by rw [Addr.add_lit]; exact hcc j u hu) (M.cells_one _) (by unfold maxLen; omega) (by omega) hbs ?_; intro v' w1 hown' hgrow _)
          | fail)
            refine ⟨⟨j + 1, v', by omega, by go_num, by first | rfl | trivial, ?_, hb.grown hgrow hbs (fun q hq => (hown.lt q hq).1)⟩, by simp [intOf]; omega⟩
            rw [HS.out.1, HS.out.2]
            exact hown'
          · have hz1 : x.2.length = 0 := by omega
            have hz2 : M.cells x.2 = [] := List.eq_nil_of_length_eq_zero (by rw [M.cells_len]; omega)
            cases ao with
            | none =>
              obtain ⟨_, rfl⟩ := h4 rfl
              rw [hz1] at h1
              clear h5 h4
              go_wp2_with (first
                | (at_builtin; refine wpList_append_own_none rfl _ _ 40 rfl B 33 i0 5 Try.underlying40 hi _ _ _ rfl hown rfl ?_)
                | fail)
              refine ⟨⟨j + 1, _, by omega, by go_num, rfl, ?_, hb⟩, by simp [intOf]; omega⟩
              rw [HS.out.1, HS.out.2, hz1, hz2, Nat.add_zero, List.append_nil]
              exact hown
            | some ad =>
              have HZ := Lib.hid (And.intro hz1 hz2)
              clear h5 h4 hz hz1 hz2
              go_wp2_with (first
            | (at_builtin; refine wpList_append_own _ rfl _ _ 40 rfl B 33 i0 (.agg #[.int .i8 0, .int .i8 0, .int .u8 0, .int .u8 0, .bool false]) 5 5 Try.underlying40 hi hz0 hz1 hz2 rfl (by decide) _ _ _ rfl hown ad x.2.length cap (M.cells x.2) rfl (M.cells_len _) (fun j u hu => by rw [HZ.out.2] at hu; cases hu) (M.cells_one _) (by unfold maxLen; omega) (by omega) hbs ?_; intro v' w1 hown' hgrow _)
            | fail)
              refine ⟨⟨j + 1, v', by omega, by go_num, by first | rfl | trivial, ?_, hb.grown hgrow hbs (fun q hq => (hown.lt q hq).1)⟩, by simp [intOf]; omega⟩
              rw [HS.out.1, HS.out.2]
              exact hown'
        · obtain rfl : j = i := by omega
          go_wp2
          go_ret
          exact ⟨_, rfl, by rw [HBB.out]; exact hown, by rw [HBB.out]; exact hb⟩

end Go.Proofs.Ytdcmjbebkmicaaa
