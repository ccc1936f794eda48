/- Several texts in one: Ref13e, PListI. -/
import Derived.Maps.OwnIn
import Derived.RangeFuncBox
import Derived.Test.YtgkndhpolcnjbaaGreatDoorZn
import Derived.Test.YtgkndhpolcnjbaaGreatDoorZl
namespace Go.Proofs.YtgkndhpolcnjbaaGreatDoor
open Go.RowKit Go.Sort
theorem owns_low {w : World} {base b' : Nat} {e : TypeId} {size : Nat} {v : Value} {n : Nat} {xs : List Value} (h : w.ownsRow base e size v n xs) (hb : b' ≤ base) : w.ownsRow b' e size v n xs := by
  refine ⟨h.1, ?_⟩
  rcases h.2 with h2 | ⟨g, cap, cur, hv, hb', h3⟩
  · exact .inl h2
  · exact .inr ⟨g, cap, cur, hv, Nat.le_trans hb hb', h3⟩
theorem owns_lt {w : World} {base : Nat} {e : TypeId} {size : Nat} {v : Value} {n : Nat} {xs : List Value} (h : w.ownsRow base e size v n xs) : ∀ q, v.ownBlock = some q → q < w.heap.size := by
  rintro q hq
  rcases h.2 with ⟨rfl, rfl⟩ | ⟨g, cap, cur, rfl, hb, hg, _⟩
  · cases hq
  · cases hq
    exact (Array.getElem?_eq_some_iff.1 hg).1
theorem Tryz.size_u8M : (Tryz.prog.info? 5).map (·.size) = some 1 := by kernel_rfl
theorem RowAt.newAt (w : World) (cs : Array Value) (T : TypeId) (g : Nat) (h : g = w.heap.size) : RowAt (w.alloc (.cells cs T)) g T cs := h ▸ RowAt.new w cs T
theorem u8s_at (L : List Nat) (n u : Nat) (h : L[n]? = some u) : (V.u8s L)[n]? = some (.int .u8 (u : Int)) := by
  unfold V.u8s
  rw [List.getElem?_map, h]
  rfl
theorem take_snoc {α : Type} (L : List α) (n : Nat) (u : α) (h : L[n]? = some u) : L.take (n + 1) = L.take n ++ [u] := by
  rw [List.take_add_one, h]
  rfl
theorem Z.many (c : Nat → Int) (t a b : Nat) (h : P.kind (c (1 + a)) = 1 ∧ Z.rank t b = 7) : Z.eachL c t a b = (V.promos (c 0).toNat).map (Z.mv a b) := by unfold Z.eachL; rw [if_pos h]
set_option maxRecDepth 100000 in
set_option maxHeartbeats 16000000 in
theorem d13list_in (c : Nat → Int) (t : Nat) (w : World) (hc : PosOk c) (ht : c 78 = (t : Int)) (ht1 : t ≤ 1) (hok : Z.ok c = true) :
    Calls Tryz.prog 52 #[.agg (posC c)] w (Z.End (D.list13 c t) w) := by
  rw [D.list_row]
  have hp := PosAt.new w c
  have hb0 : Below w.heap.size w (w.alloc (.cells (posC c) 31)) := (Below.refl _ _).alloc (Nat.le_refl _) _
  obtain ⟨W, hW⟩ : ∃ W, w.alloc (.cells (posC c) 31) = W := ⟨_, rfl⟩
  rw [hW] at hp hb0
  obtain ⟨v0, v1⟩ := pos_u8 hc (i := 0) (by decide) rfl
  obtain ⟨v, hv⟩ : ∃ v : Nat, c 0 = (v : Int) := ⟨(c 0).toNat, by omega⟩
  have Hc := Lib.hid hc
  have HC : Hid (∀ w' : World, PosAt w' w.heap.size c → w'.cell? ⟨w.heap.size, 0, none⟩ = some (.int .u8 (v : Int)) ∧ w'.cell? ⟨w.heap.size, 78, none⟩ = some (.int .u8 (t : Int)) ∧ ∀ (a : Nat), a < 64 → w'.cell? ⟨w.heap.size, 1 + a, none⟩ = some (.int .u8 (c (1 + a)))) := Lib.hid (fun w' hq => by
    have h0 := hq.cell (i := 0) (by decide)
    have h78 := hq.cell (i := 78) (by decide)
    rw [hv, show pk 0 = .u8 from rfl] at h0
    rw [ht, show pk 78 = .u8 from rfl] at h78
    exact ⟨h0, h78, fun a ha => bd_cell hq.heap a ha⟩)
  have HTh : Hid (∀ w, Calls Tryz.prog 112 #[.agg (posC c)] w fun e w' => e = .returned (.bool true) ∧ Below w.heap.size w w') := Lib.hid (fun w => d13there_eq c true w hok)
  have HMay : Hid (∀ (a b : Nat), a < 64 → b < 64 → ∀ w, Calls Tryz.prog 113 #[.agg (posC c), .int .i64 (a : Int), .int .i64 (b : Int)] w fun e w' => e = .returned (.bool (D.may c t a b)) ∧ Below w.heap.size w w') := Lib.hid (fun a b ha hb w => d13may_any c t a b w hc ht ht1 ha hb)
  have HK : Hid (∀ (a : Nat), a < 64 → ∀ w, Calls Tryz.prog 59 #[.int .u8 (c (1 + a))] w fun e w' => e = .returned (.int .u8 (P.kind (c (1 + a)))) ∧ w = w') := Lib.hid (fun a ha w => d8kind_any _ w (pos_bd hc a ha).1 (pos_bd hc a ha).2)
  have HR : Hid (∀ (b : Nat), b < 64 → ∀ w T, T = (t : Int) → Calls Tryz.prog 114 #[.int .u8 T, .int .i64 (b : Int)] w fun e w' => e = .returned (.int .i64 (Z.rank t b : Nat)) ∧ w = w') := Lib.hid (fun b hb w T h => by rw [h]; exact d13rank_any t b w ht1 hb)
  have HV := Lib.hid hv
  have HP0 := Lib.hid hp
  have HB0 := Lib.hid hb0
  clear hc ht hok v0 v1 hv hp hb0
  go_enter Tryz.func52, Tryz.ntmps52
  go_wp2_with (first
    | ((with_reducible refine wp_load_box rfl _ rfl ?_); refine ⟨_, _, rfl, HP0.out, ?_⟩)
    | (go_at_call 112; refine (HTh.out _).mono ?_; rintro e w1 ⟨rfl, hb1⟩; have HP1 := Lib.hid (HP0.out.below hb1); have HB1 := Lib.hid (below_next HB0.out hb1); clear hb1))
  obtain ⟨i0, hi, hz0, hz1, hz2⟩ := info_parts Tryz.info_Mv
  go_loopw [3, 4] (fun x i wr => ∃ a : Nat, a ≤ 64 ∧ i = .int .i64 (a : Int) ∧ wr.ownsRow (w.heap.size + 1) 40 5 x (D.rowA c t a).length (M.cells (D.rowA c t a)) ∧ PosAt wr w.heap.size c ∧ Below w.heap.size w wr) (fun _ i _ => 64 - (intOf i).toNat)
  case atStart => exact ⟨0, Nat.zero_le _, rfl, World.ownsRow_nil _ _ _ _, HP1.out, HB1.out⟩
  case round =>
    obtain ⟨a, ha, rfl, hown, hp, hbr⟩ := hrel
    by_cases hlt : a < 64
    · have hlA := D.rowA_len c t a
      obtain ⟨LA, hLA⟩ : ∃ LA, D.rowA c t a = LA := ⟨_, rfl⟩
      have HA := Lib.hid hLA
      rw [hLA] at hown hlA
      have HO := Lib.hid hown
      have HP := Lib.hid hp
      have HB := Lib.hid hbr
      clear hown hp hbr hLA ha
      go_wp2
      rw [show decide ((a : Int) < 64) = true by simp; omega]
      go_loopw [3, 5] (fun x i wr => ∃ b : Nat, b ≤ 64 ∧ i = .int .i64 (b : Int) ∧ wr.ownsRow (w.heap.size + 1) 40 5 x (LA ++ D.rowB c t a b).length (M.cells (LA ++ D.rowB c t a b)) ∧ PosAt wr w.heap.size c ∧ Below w.heap.size w wr) (fun _ i _ => 64 - (intOf i).toNat)
      case atStart => exact ⟨0, Nat.zero_le _, rfl, by rw [show D.rowB c t a 0 = [] from rfl, List.append_nil]; exact HO.out, HP.out, HB.out⟩
      case round =>
        obtain ⟨b, hb, rfl, hown, hp, hbr⟩ := hrel
        by_cases hlb : b < 64
        · have hlB := D.rowB_len c t a b
          have hst := D.rowB_succ c t a b
          obtain ⟨m, hm⟩ : ∃ m, D.may c t a b = m := ⟨_, rfl⟩
          have HM := Lib.hid (HMay.out a b hlt hlb)
          rw [hm] at HM hst
          clear hm
          cases m
          · rw [if_neg (by simp), List.append_nil] at hst
            have HST := Lib.hid hst
            clear hst hb
            go_wp2_with (first
              | ((with_reducible refine wp_load_box rfl _ rfl ?_); refine ⟨_, _, rfl, hp, ?_⟩)
              | (go_at_call 113; refine (HM.out _).mono ?_; rintro e w2 ⟨rfl, hb2⟩; replace hown := owns_below hown hb2; replace hp := hp.below hb2; replace hbr := below_next hbr hb2; clear hb2))
            go_roundw
            case rel => exact ⟨b + 1, by omega, by go_num, by rw [HST.out]; exact hown, hp, hbr⟩
            case measure => simp [intOf]; omega
          · rw [if_pos rfl] at hst
            obtain ⟨LB, hLB⟩ : ∃ LB, LA ++ D.rowB c t a b = LB := ⟨_, rfl⟩
            have hst2 : LA ++ D.rowB c t a (b + 1) = LB ++ Z.eachL c t a b := by rw [hst, ← List.append_assoc, hLB]
            have hlL : LB.length ≤ 30000 := by rw [← hLB, List.length_append]; omega
            rw [hLB] at hown
            have HKa := Lib.hid (HK.out a hlt)
            have HRb := Lib.hid (HR.out b hlb)
            have h1 := Z.one_of c t a b
            have h2 := Z.many c t a b
            obtain ⟨x, hx⟩ : ∃ x, c (1 + a) = x := ⟨_, rfl⟩
            rw [hx] at HKa h1 h2
            generalize P.kind x = k at *
            generalize Z.rank t b = r at *
            have HX := Lib.hid hx
            have w8a := i8_sq a hlt
            have w8b := i8_sq b hlb
            clear hLB hst hlA hlB hx
            by_cases q : k = 1 ∧ r = 7
            · rw [h2 q] at hst2
              have d1 : (k != 1) = false := by simp; omega
              have d7 : ((r : Int) != 7) = false := by simp; omega
              rw [HV.out, Int.toNat_natCast] at hst2
              have HPr : Hid (∀ w, Calls Tryz.prog 115 #[.int .u8 (v : Int)] w fun e w' => ∃ x, e = .returned x ∧ w'.ownsRow w.heap.size 5 1 x (V.promos v).length (V.u8s (V.promos v)) ∧ Below w.heap.size w w') := Lib.hid (fun w => d7promotes_any v w)
              have hL6 : (V.promos v).length ≤ 6 := by have := V.last_bd v; unfold V.promos; simp; omega
              obtain ⟨L, hL⟩ : ∃ L, V.promos v = L := ⟨_, rfl⟩
              rw [hL] at HPr hst2 hL6
              have HE := Lib.hid hst2
              have HH := Lib.hid (And.intro hb hlb)
              clear hst2 h1 h2 q hL hb
              go_wp2_with (first
                | ((with_reducible refine wp_load_box rfl _ rfl ?_); refine ⟨_, _, rfl, hp, ?_⟩)
                | (go_at_call 113; refine (HM.out _).mono ?_; rintro e w2 ⟨rfl, hb2⟩; replace hown := owns_below hown hb2; replace hp := hp.below hb2; replace hbr := below_next hbr hb2; have hlo := owns_lt hown; have hpl := hp.lt; clear hb2; have hm2 := RowAt.new w2 #[.int .i8 (a : Int), .int .i8 (b : Int), .int .u8 0, .int .u8 0, .bool false] 40; have hs2 : (w2.alloc (.cells #[.int .i8 (a : Int), .int .i8 (b : Int), .int .u8 0, .int .u8 0, .bool false] 40)).heap.size = w2.heap.size + 1 := (by simp); replace hown := hown.alloc (.cells #[.int .i8 (a : Int), .int .i8 (b : Int), .int .u8 0, .int .u8 0, .bool false] 40); replace hp := hp.alloc (.cells #[.int .i8 (a : Int), .int .i8 (b : Int), .int .u8 0, .int .u8 0, .bool false] 40); replace hbr := hbr.alloc hbr.size (.cells #[.int .i8 (a : Int), .int .i8 (b : Int), .int .u8 0, .int .u8 0, .bool false] 40); obtain ⟨k0, k78, ksq⟩ := HC.out _ hp; replace ksq := ksq a hlt; rw [HX.out] at ksq)
                | (go_at_call 59; refine (HKa.out _).mono ?_; rintro e w3 ⟨rfl, rfl⟩)
                | (go_at_call 114; refine (HRb.out _ _ (by first | rfl | omega)).mono ?_; rintro e w3 ⟨rfl, rfl⟩)
                | (go_at_call 115; refine (HPr.out _).mono ?_; rintro e w3 ⟨y3, rfl, hown3, hb4⟩; replace hown := owns_below hown hb4; replace hp := hp.below hb4; replace hbr := below_next hbr hb4; replace hm2 := hm2.below hb4; obtain ⟨ao, cap, rfl, hcap, hcm, hao⟩ := row_open1 hown3; clear hb4)
                )
              obtain ⟨g, hg⟩ : ∃ g, w2.heap.size = g := ⟨_, rfl⟩
              rw [hg] at hm2 hlo hpl hs2 ⊢
              have HO3 := Lib.hid hown
              have HM3 := Lib.hid hm2
              have HP3 := Lib.hid hp
              have HB3 := Lib.hid hbr
              have HK3 := Lib.hid (owns_low hown3 (show w.heap.size + 1 ≤ (w2.alloc (.cells #[.int .i8 (a : Int), .int .i8 (b : Int), .int .u8 0, .int .u8 0, .bool false] 40)).heap.size by omega))
              have HLO := Lib.hid hlo
              clear hown hm2 hp hbr hown3 hlo k0 k78 ksq hao hg
              try rw [show decide ((b : Int) < 64) = true by simp; omega]
              go_loopw [3, 8] (fun x i wr => ∃ n : Nat, n ≤ L.length ∧ i = .int .i64 (n : Int) ∧ wr.ownsRow (w.heap.size + 1) 40 5 x (LB ++ (L.take n).map (Z.mv a b)).length (M.cells (LB ++ (L.take n).map (Z.mv a b))) ∧ x.ownBlock ≠ some g ∧ (∃ p : Nat, RowAt wr g 40 #[.int .i8 (a : Int), .int .i8 (b : Int), .int .u8 (p : Int), .int .u8 0, .bool false]) ∧ wr.ownsRow (w.heap.size + 1) 5 1 (.slice ao L.length cap) L.length (V.u8s L) ∧ PosAt wr w.heap.size c ∧ Below w.heap.size w wr) (fun _ i _ => L.length - (intOf i).toNat)
              case atStart => exact ⟨0, Nat.zero_le _, rfl, by rw [List.take_zero, List.map_nil, List.append_nil]; exact HO3.out, (fun e => by have := HLO.out _ e; omega), ⟨0, HM3.out⟩, HK3.out, HP3.out, HB3.out⟩
              case round =>
                obtain ⟨n, hn, rfl, hown, hne, ⟨p, hm⟩, hk, hp, hbr⟩ := hrel
                by_cases hln : n < L.length
                · obtain ⟨u, hu⟩ : ∃ u, L[n]? = some u := ⟨L[n], List.getElem?_eq_getElem hln⟩
                  have HT := Lib.hid (take_snoc L n u hu)
                  have hlen : (LB ++ (L.take n).map (Z.mv a b)).length ≤ 30010 := by simp; omega
                  obtain ⟨ao2, cap2, e2, hcap2, hcm2, hao2⟩ := row_open1 hk
                  cases e2
                  obtain ⟨kb, rfl, hkb1, hkb2, hcell⟩ := hao2 (by omega)
                  have hc1 := hcell n _ (u8s_at L n u hu)
                  have hnm := RowAt.not_own hm hk (by decide)
                  have hgw : w.heap.size < g := by omega
                  have HK := Lib.hid hk
                  have HNM := Lib.hid hnm
                  have HNE := Lib.hid hne
                  clear hao2 hcell hu hk hnm hne
                  go_wp2_with (first
                    | ((with_reducible refine wp_store_at rfl _ _ _ rfl ?_); refine ⟨g, 2, 40, _, _, rfl, rfl, rfl, hm, (by simp), Tryz.size_u8M, ?_⟩; intro W5 hP5 hm5; replace hown := hP5.owns hown HNE.out; have HK5 := Lib.hid (hP5.owns HK.out HNM.out); replace hp : PosAt W5 w.heap.size c := ⟨(hP5.block _ (by omega)).trans hp.heap⟩; have hpl5 := hp.lt; replace hbr := hP5.below hbr (by omega); replace hm5 : RowAt W5 g 40 #[.int .i8 (a : Int), .int .i8 (b : Int), .int .u8 (u : Int), .int .u8 0, .bool false] := hm5)
                    | ((with_reducible refine wp_load_row' rfl 40 _ rfl Tryz.underlying40 rfl ?_); refine ⟨g, 40, #[.int .i8 (a : Int), .int .i8 (b : Int), .int .u8 (u : Int), .int .u8 0, .bool false], rfl, hm5, Tryz.size_Mv, ?_⟩)
                    | (at_builtin; refine wpList_append_own_at _ rfl _ _ 33 rfl (w.heap.size + 1) 40 i0 (.agg #[.int .i8 0, .int .i8 0, .int .u8 0, .int .u8 0, .bool false]) 5 5 Tryz.underlying33 hi hz0 hz1 hz2 rfl (by decide) _ _ _ rfl (hown.alloc _) ⟨_, 0, none⟩ 1 1 (M.cell (Z.mv a b u)) rfl rfl (mv_row (RowAt.newAt W5 (M.cell (Z.mv a b u)).toArray 40 _ (by first | rfl | simp))) (mv_one _) (by unfold maxLen; omega) (by omega) (by simp; omega) ?_; intro v' w4 hown4 hgrow _ hat)
                    )
                  have hkne : ∀ q, v'.ownBlock = some q → q ≠ g := fun q hq e => by
                    rcases hat with h | h
                    · exact HNE.out (h.symm.trans (hq.trans (by rw [e])))
                    · rw [hq, e] at h
                      have := hm5.lt
                      simp at h
                      omega
                  go_roundw
                  case measure => simp [intOf]; omega
                  refine ⟨n + 1, by omega, by go_num, ?_, (fun e => hkne _ e rfl), ⟨u, ?_⟩, ?_, ?_, ?_⟩
                  · rw [HT.out, List.map_append, ← List.append_assoc, List.length_append, List.map_cons, List.map_nil, M.cells_cons]; exact hown4
                  · exact (hm5.alloc _).grown hgrow (fun q hq e => HNE.out (hq.trans (by rw [e])))
                  · exact (HK5.out.alloc _).kept hgrow (.inr (fun e => owns_ne hown HK5.out (by decide) kb e.symm rfl))
                  · exact (hp.alloc _).grown hgrow (fun q hq => by have := (hown.lt q hq).1; omega)
                  · exact (hbr.alloc hbr.size _).grown hgrow (by simp; omega) (fun q hq => by have := (hown.lt q hq).1; omega)
                · obtain rfl : n = L.length := by omega
                  have HO4 := Lib.hid hown
                  have HP4 := Lib.hid hp
                  have HB4 := Lib.hid hbr
                  clear hown hne hm hk hp hbr
                  go_wp2
                  have hh := HH.out
                  go_roundw
                  case rel => exact ⟨b + 1, by omega, by go_num, by rw [HE.out]; have := HO4.out; rwa [List.take_length] at this, HP4.out, HB4.out⟩
                  case measure => simp [intOf]; omega
            · rw [h1 q] at hst2
              by_cases q1 : k = 1
              · have d1 : (k != 1) = false := by simp; omega
                have d7 : ((r : Int) != 7) = true := by simp; omega
                clear q1
                have HE := Lib.hid hst2
                clear hst2 h1 h2 q
                go_wp2_with (first
                  | ((with_reducible refine wp_load_box rfl _ rfl ?_); refine ⟨_, _, rfl, hp, ?_⟩)
                  | (go_at_call 113; refine (HM.out _).mono ?_; rintro e w2 ⟨rfl, hb2⟩; replace hown := owns_below hown hb2; replace hp := hp.below hb2; replace hbr := below_next hbr hb2; have hlo := owns_lt hown; have hpl := hp.lt; clear hb2; have hm2 := RowAt.new w2 #[.int .i8 (a : Int), .int .i8 (b : Int), .int .u8 0, .int .u8 0, .bool false] 40; have hs2 : (w2.alloc (.cells #[.int .i8 (a : Int), .int .i8 (b : Int), .int .u8 0, .int .u8 0, .bool false] 40)).heap.size = w2.heap.size + 1 := (by simp); replace hown := hown.alloc (.cells #[.int .i8 (a : Int), .int .i8 (b : Int), .int .u8 0, .int .u8 0, .bool false] 40); replace hp := hp.alloc (.cells #[.int .i8 (a : Int), .int .i8 (b : Int), .int .u8 0, .int .u8 0, .bool false] 40); replace hbr := hbr.alloc hbr.size (.cells #[.int .i8 (a : Int), .int .i8 (b : Int), .int .u8 0, .int .u8 0, .bool false] 40); obtain ⟨k0, k78, ksq⟩ := HC.out _ hp; replace ksq := ksq a hlt; rw [HX.out] at ksq)
                  | (go_at_call 59; refine (HKa.out _).mono ?_; rintro e w3 ⟨rfl, rfl⟩)
                  | (go_at_call 114; refine (HRb.out _ _ (by first | rfl | omega)).mono ?_; rintro e w3 ⟨rfl, rfl⟩)
                  | ((with_reducible refine wp_load_row' rfl 40 _ rfl Tryz.underlying40 rfl ?_); refine ⟨w2.heap.size, 40, #[.int .i8 (a : Int), .int .i8 (b : Int), .int .u8 0, .int .u8 0, .bool false], rfl, hm2, Tryz.size_Mv, ?_⟩)
                  | (at_builtin; refine wpList_append_own_at _ rfl _ _ 33 rfl (w.heap.size + 1) 40 i0 (.agg #[.int .i8 0, .int .i8 0, .int .u8 0, .int .u8 0, .bool false]) 5 5 Tryz.underlying33 hi hz0 hz1 hz2 rfl (by decide) _ _ _ rfl (hown.alloc _) ⟨_, 0, none⟩ 1 1 (M.cell (Z.mv a b 0)) rfl rfl (mv_row (RowAt.newAt (w2.alloc (.cells #[.int .i8 (a : Int), .int .i8 (b : Int), .int .u8 0, .int .u8 0, .bool false] 40)) (M.cell (Z.mv a b 0)).toArray 40 _ (by first | rfl | simp))) (mv_one _) (by unfold maxLen; omega) (by omega) (by simp; omega) ?_; intro v' w4 hown4 hgrow _ hat)
                  )
                go_roundw
                case measure => simp [intOf]; omega
                case rel =>
                  refine ⟨b + 1, by omega, by go_num, by rw [HE.out, List.length_append, M.cells_cons]; exact hown4, ?_, ?_⟩
                  · exact (hp.alloc _).grown hgrow (fun q hq => by have := (hown.lt q hq).1; omega)
                  · exact (hbr.alloc hbr.size _).grown hgrow (by simp; omega) (fun q hq => by have := (hown.lt q hq).1; omega)
              · have d1 : (k != 1) = true := by simp; omega
                clear q1
                have HE := Lib.hid hst2
                clear hst2 h1 h2 q
                go_wp2_with (first
                  | ((with_reducible refine wp_load_box rfl _ rfl ?_); refine ⟨_, _, rfl, hp, ?_⟩)
                  | (go_at_call 113; refine (HM.out _).mono ?_; rintro e w2 ⟨rfl, hb2⟩; replace hown := owns_below hown hb2; replace hp := hp.below hb2; replace hbr := below_next hbr hb2; have hlo := owns_lt hown; have hpl := hp.lt; clear hb2; have hm2 := RowAt.new w2 #[.int .i8 (a : Int), .int .i8 (b : Int), .int .u8 0, .int .u8 0, .bool false] 40; have hs2 : (w2.alloc (.cells #[.int .i8 (a : Int), .int .i8 (b : Int), .int .u8 0, .int .u8 0, .bool false] 40)).heap.size = w2.heap.size + 1 := (by simp); replace hown := hown.alloc (.cells #[.int .i8 (a : Int), .int .i8 (b : Int), .int .u8 0, .int .u8 0, .bool false] 40); replace hp := hp.alloc (.cells #[.int .i8 (a : Int), .int .i8 (b : Int), .int .u8 0, .int .u8 0, .bool false] 40); replace hbr := hbr.alloc hbr.size (.cells #[.int .i8 (a : Int), .int .i8 (b : Int), .int .u8 0, .int .u8 0, .bool false] 40); obtain ⟨k0, k78, ksq⟩ := HC.out _ hp; replace ksq := ksq a hlt; rw [HX.out] at ksq)
                  | (go_at_call 59; refine (HKa.out _).mono ?_; rintro e w3 ⟨rfl, rfl⟩)
                  | (go_at_call 114; refine (HRb.out _ _ (by first | rfl | omega)).mono ?_; rintro e w3 ⟨rfl, rfl⟩)
                  | ((with_reducible refine wp_load_row' rfl 40 _ rfl Tryz.underlying40 rfl ?_); refine ⟨w2.heap.size, 40, #[.int .i8 (a : Int), .int .i8 (b : Int), .int .u8 0, .int .u8 0, .bool false], rfl, hm2, Tryz.size_Mv, ?_⟩)
                  | (at_builtin; refine wpList_append_own_at _ rfl _ _ 33 rfl (w.heap.size + 1) 40 i0 (.agg #[.int .i8 0, .int .i8 0, .int .u8 0, .int .u8 0, .bool false]) 5 5 Tryz.underlying33 hi hz0 hz1 hz2 rfl (by decide) _ _ _ rfl (hown.alloc _) ⟨_, 0, none⟩ 1 1 (M.cell (Z.mv a b 0)) rfl rfl (mv_row (RowAt.newAt (w2.alloc (.cells #[.int .i8 (a : Int), .int .i8 (b : Int), .int .u8 0, .int .u8 0, .bool false] 40)) (M.cell (Z.mv a b 0)).toArray 40 _ (by first | rfl | simp))) (mv_one _) (by unfold maxLen; omega) (by omega) (by simp; omega) ?_; intro v' w4 hown4 hgrow _ hat)
                  )
                go_roundw
                case measure => simp [intOf]; omega
                case rel =>
                  refine ⟨b + 1, by omega, by go_num, by rw [HE.out, List.length_append, M.cells_cons]; exact hown4, ?_, ?_⟩
                  · exact (hp.alloc _).grown hgrow (fun q hq => by have := (hown.lt q hq).1; omega)
                  · exact (hbr.alloc hbr.size _).grown hgrow (by simp; omega) (fun q hq => by have := (hown.lt q hq).1; omega)
        · obtain rfl : b = 64 := by omega
          have HO2 := Lib.hid hown
          have HP2 := Lib.hid hp
          have HB2 := Lib.hid hbr
          clear hown hp hbr hb hlb
          go_wp2
          go_roundw
          case rel => exact ⟨a + 1, by omega, by go_num, by rw [D.rowA_succ, HA.out]; exact HO2.out, HP2.out, HB2.out⟩
          case measure => simp [intOf]; omega
    · obtain rfl : a = 64 := by omega
      go_wp2
      go_ret
      exact ⟨_, rfl, owns_low hown (by omega), hbr⟩
end Go.Proofs.YtgkndhpolcnjbaaGreatDoor
namespace Go.Proofs.YtgkndhpolcnjbaaGreatDoor
open Go.RowKit Go.Sort
attribute [local go_sem] Oper.semAt_some
set_option maxRecDepth 100000 in
theorem smoves_any (c : Nat → Int) (o h : BitVec 64) (w : World) : Calls Tryz.prog 79 #[.agg (Z.sd c o h)] w fun e w' => e = .returned (.func (.func 139) #[] #[.pointer (some ⟨w.heap.size, 0, none⟩)]) ∧ w.alloc (.cells (Z.sd c o h) 94) = w' := by
  go_enter Tryz.func79, Tryz.ntmps79
  go_wp2
  go_ret
  exact ⟨rfl, rfl⟩
/-- What List's variables hold between two rounds: the row so far in the box at Bo; the blocks O are the iterator's. -/
def Z.Row (w : World) (Bo : Nat) (O : Nat → Prop) (pre : List Mv) (W : World) : Prop :=
  ∃ v, Boxed W Bo 33 v ∧ W.ownsRow Bo 40 5 v pre.length (M.cells pre) ∧ (∀ q, v.ownBlock = some q → ¬ O q) ∧ (∀ q, O q → Bo ≤ q ∧ q < W.heap.size) ∧ ¬ O Bo ∧ Below w.heap.size w W
theorem Z.Row.grow (w : World) (Bo : Nat) : Owns1 (Z.Row w Bo) := by
  rintro O O' s W W' ⟨v, hv, hr, hq, hO, hB, hb⟩ hb' ho
  have hlt := hv.lt
  refine ⟨v, (hb'.block _ hv.lt).trans hv, owns_below hr hb', fun q e hq' => ?_, fun q hq' => ?_, fun h => ?_, below_next hb hb'⟩
  · rcases ho q hq' with h | h
    · exact hq q e h
    · have := owns_lt hr q e
      omega
  · rcases ho q hq' with h | h
    · have := hO q h
      have := hb'.size
      omega
    · exact ⟨by omega, h.2⟩
  · rcases ho _ h with h | h
    · exact hB h
    · omega
theorem Z.Row.put (w : World) (Bo : Nat) (hw : w.heap.size ≤ Bo) : Owns2 (Z.Row w Bo) := by
  rintro O s W W' b ⟨v, hv, hr, hq, hO, hB, hb⟩ hob hP
  exact ⟨v, (hP.block _ (fun e => hB (by rw [e]; exact hob))).trans hv, hP.owns hr (fun e => hq b e hob), hq, fun q h => by rw [hP.size]; exact hO q h, hB, hP.below hb (by have := hO b hob; omega)⟩
theorem Z.Row.puts (w w0 : World) (Bo : Nat) (hw : w.heap.size ≤ w0.heap.size) (O : Nat → Prop) (s : List Mv) : Puts w0.heap.size (Z.Row w Bo O s) := by
  rintro W l o o' ⟨v, hv, hr, hq, hO, hB, hb⟩ hl ho hn
  have ne : ∀ {B : Nat} {t : TypeId} {x : Value}, Boxed W B t x → some B ≠ some l := fun hx e => by cases e; rw [show W.heap[_]? = _ from hx] at ho; cases ho; cases hn
  exact ⟨v, hv.kept (grownBy_putObj' W l o') (ne hv), ownsRow_putObj hr o' ho hn, hq, fun q h => by simpa using hO q h, hB, hb.grown (grownBy_putObj' W l o') hb.size (fun k e => by cases e; omega)⟩
/-- List's slots while the body runs. -/
def Z.slots (c : Nat → Int) (o h : BitVec 64) (w w1 : World) (Bo Bm : Nat) (x : Mv) : Act :=
  { tmps := #[.agg (posC c), .pointer (some ⟨w.heap.size, 0, none⟩), .slice none 0 0, .pointer (some ⟨w1.heap.size, 0, none⟩), .bool true, .pointer (some ⟨Bo, 0, none⟩), .pointer (some ⟨Bm, 0, none⟩), .tuple #[.agg (Z.sd c o h), .bool true], .agg (posC c), .tuple #[.agg (Z.sd c o h), .bool true], .agg (Z.sd c o h), .bool true, .bool true, .bool false, .agg (Z.sd c o h), .func (.func 139) #[] #[.pointer (some ⟨Bo + 1, 0, none⟩)], .agg (M.cell x).toArray, undef, undef, undef, undef, undef], defers := [] }
set_option maxRecDepth 100000 in
set_option maxHeartbeats 4000000 in
theorem plist_in (c : Nat → Int) (t : Nat) (w : World) (hc : PosOk c) (hT : Tb w) (ht : c 78 = (t : Int)) (ht1 : t ≤ 1) (hok : Z.ok c = true) :
    Calls Tryz.prog 25 #[.agg (posC c)] w (Z.End (Z.allR c (Z.own c) (Z.oth c) t (B.list (Z.own c))) w) := by
  have HOf : Hid (∀ w, Calls Tryz.prog 69 #[.agg (posC c)] w fun e w' => e = .returned (.tuple #[.agg (Z.sd c (Z.own c) (Z.oth c)), .bool true]) ∧ Below w.heap.size w w') := Lib.hid (fun w => by
    have := pof_any c w hc
    unfold Z.ofV at this
    rwa [if_pos hok] at this)
  have hL64 := B.list_len (Z.own c)
  obtain ⟨o, ho⟩ : ∃ o, Z.own c = o := ⟨_, rfl⟩
  obtain ⟨uo, hh⟩ : ∃ uo, Z.oth c = uo := ⟨_, rfl⟩
  rw [ho, hh] at HOf
  rw [ho] at hL64
  rw [ho, hh]
  have hlen := Z.allR_len c o uo t (B.list o)
  have HL := Lib.hid (show (Z.allR c o uo t (B.list o)).length ≤ 20480 by omega)
  have HT := Lib.hid hT
  have HC := Lib.hid (And.intro hc ht)
  have hp := PosAt.new w c
  have hb0 : Below w.heap.size w (w.alloc (.cells (posC c) 31)) := (Below.refl _ _).alloc (Nat.le_refl _) _
  obtain ⟨W, hW⟩ : ∃ W, w.alloc (.cells (posC c) 31) = W := ⟨_, rfl⟩
  rw [hW] at hp hb0
  have hs0 : W.heap.size = w.heap.size + 1 := by rw [← hW]; simp
  have HP := Lib.hid hp
  have HB := Lib.hid hb0
  clear hc ht hok ho hh hlen hL64 hT hp hb0
  refine (callsIn_wide (n := 6)).1 ?_
  refine callsIn_of_wp_marks Tryz.func25 rfl trivial ?_ rfl
  refine wpIn_wide.2 ?_
  simp only [Tryz.ntmps25, List.size_toArray, List.length_cons, List.length_nil, Nat.reduceAdd, Nat.reduceSub, Array.replicate_succ, Array.replicate_zero, List.push_toArray, List.append_toArray, List.nil_append, List.cons_append]
  go_wp2_with (first
    | ((with_reducible refine wp_load_box rfl _ rfl ?_); refine ⟨_, _, rfl, HP.out, ?_⟩)
    | (go_at_call 69; refine (HOf.out _).mono ?_; rintro e w1 ⟨rfl, hb1⟩)
    | ((with_reducible refine wp_store_row' rfl 94 _ _ rfl ?_); refine ⟨w1.heap.size, 94, Z.sd c o uo, rfl, rfl, ⟨_, heap_alloc_new _ _, (by rw [Z.sd_size]; rfl)⟩, Z.info _ _ _, Z.sd_one _ _ _, ?_⟩; intro W2 hP2 hR2)
    | ((with_reducible refine wp_load_row' rfl 94 _ rfl Tryz.underlying94 rfl ?_); refine ⟨w1.heap.size, 94, Z.sd c o uo, rfl, hR2.alloc _, Z.info _ _ _, ?_⟩)
    | (go_at_call 79; refine (smoves_any _ _ _ _).mono ?_; rintro e w' ⟨rfl, rfl⟩))
  have hb2 := hP2.below ((below_next HB.out hb1).alloc (below_next HB.out hb1).size (.cells Tryz.zeroCells94 94)) (below_next HB.out hb1).size
  have hs1 := (below_next HB.out hb1).size
  have hs2 : w1.heap.size + 1 = W2.heap.size := by rw [hP2.size]; simp
  obtain ⟨Bo, hBo⟩ : ∃ Bo, W2.heap.size = Bo := ⟨_, rfl⟩
  have bO := Boxed.new W2 33 (.slice none 0 0)
  have hbA := hb2.alloc hb2.size (.cells #[.slice none 0 0] 33)
  have hRs := RowAt.new (W2.alloc (.cells #[.slice none 0 0] 33)) (Z.sd c o uo) 94
  have hbB := hbA.alloc hbA.size (.cells (Z.sd c o uo) 94)
  replace bO := bO.alloc (.cells (Z.sd c o uo) 94)
  rw [World.size_alloc, hBo] at hRs
  rw [hBo] at bO hs2 ⊢
  have hs0 : ((W2.alloc (.cells #[.slice none 0 0] 33)).alloc (.cells (Z.sd c o uo) 94)).heap.size = Bo + 2 := by simp; omega
  obtain ⟨W0, hW0⟩ : ∃ W0, (W2.alloc (.cells #[.slice none 0 0] 33)).alloc (.cells (Z.sd c o uo) 94) = W0 := ⟨_, rfl⟩
  rw [hW0] at bO hRs hbB hs0 ⊢
  have hI0 : Z.Row w Bo (fun q => q = Bo + 1) [] W0 := ⟨_, bO, World.ownsRow_nil _ _ _ _, (fun q e => by cases e), (fun q e => by have e : q = Bo + 1 := e; omega), (fun e => by have e : Bo = Bo + 1 := e; omega), hbB⟩
  have HI0 := Lib.hid hI0
  have HRs := Lib.hid hRs
  have HbB := Lib.hid hbB
  clear hb1 hP2 hR2 hb2 bO hbA hRs hbB hW0 hI0 hW
  obtain ⟨i0, hi, hz0, hz1, hz2⟩ := info_parts Tryz.info_Mv
  refine (wpIn_wide (n := 6)).1 ?_
  refine rangeFunc_tellsO (gf := 139) (lb := #[.pointer (some ⟨Bo + 1, 0, none⟩)]) Bo (by omega) (fun q => q = Bo + 1) (by rintro q rfl; omega) rfl (enters_of Tryz.func139 (by kernel_rfl) rfl) (fun x : Mv => Z.enc x) (fun _ => rfl)
    (Z.Row w Bo) (fun pre _ _ => pre.length ≤ 30000) (fun x a' W => ∃ Bm, RowAt W Bm 40 (M.cell x).toArray ∧ a' = Z.slots c o uo w w1 Bo Bm x)
    (fun xs => xs = Z.allR c o uo t (B.list o)) (Z.Row.grow w Bo) (Z.Row.put w Bo (by omega)) (fun O s => Z.Row.puts w W0 Bo (by omega) O s) (fun _ _ _ _ _ _ h _ _ _ => h) ?ax ?iter HI0.out ?assign ?body ?done
  case ax =>
    rintro x a' W l o1 o' ⟨Bm, hm, rfl⟩ hl ho hn
    exact ⟨Bm, ⟨(World.putObj_heap_other (by intro e; subst e; rw [hm.heap] at ho; cases ho; cases hn)).trans hm.heap⟩, rfl⟩
  case iter =>
    intro l J W hW hJ1 hJ2 h0 hY
    refine (moves1_tells (6 - 1) l Bo (Bo + 1) c o uo t HC.out.1 HC.out.2 ht1 J (fun q => q = Bo + 1) W hJ1 hJ2 h0 (by have := hW.size; omega) (by rintro q rfl; have := hW.size; omega) rfl (HRs.out.belowB hW (by omega)) (fun W' hb => tb_below HT.out (HbB.out.trans ((hW.mono (by omega)).trans (hb.mono (by omega))))) (fun O' q x W1 h1 h2 => hY O' q x W1 h1 h2))
  case assign =>
    intro l O pre x W Kk hI hx hK
    have HI := Lib.hid hI
    have HK := Lib.hid hK
    obtain ⟨f, g, p, d, ca⟩ := x
    clear hI hK
    simp only [Z.enc, M.cell]
    gi_wp2
    have hbn : Below W.heap.size W (W.alloc (.cells #[.int .i8 f, .int .i8 g, .int .u8 p, .int .u8 d, .bool ca] 40)) := (Below.refl _ _).alloc (Nat.le_refl _) _
    obtain ⟨v, hv, _, _, hO, _⟩ := HI.out
    exact HK.out _ _ (K.KeepsFrom.of_below hbn) (KO.of_below hbn (by have := hv.lt; omega) (fun q hq => (hO q hq).2)) (Z.Row.grow w Bo O O pre W _ HI.out hbn (fun q hq => .inl hq)) hx ⟨W.heap.size, RowAt.new _ _ _, rfl⟩
  case body =>
    rintro l O pre x a' W hl ⟨v, hv, hrow, hq, hO, hB, hb⟩ hx ⟨Bm, hm, rfl⟩
    obtain ⟨f, g, p, d, ca⟩ := x
    have m0 := hm.cell 0
    have m1 := hm.cell 1
    have m2 := hm.cell 2
    have m3 := hm.cell 3
    have m4 := hm.cell 4
    simp only [M.cell, List.getElem?_toArray, List.getElem?_cons_zero, List.getElem?_cons_succ] at m0 m1 m2 m3 m4
    have hc := hv.cell
    have hlt := hv.lt
    have HW := Lib.hid (And.intro hq (And.intro hO (And.intro hB hb)))
    simp only [Z.slots, M.cell]
    clear hq hO hB hb hm hl
    gi_wp2_with (gi_at_builtin; refine wpListIn_append_own_at _ rfl _ _ 33 rfl Bo 40 i0 (.agg #[.int .i8 0, .int .i8 0, .int .u8 0, .int .u8 0, .bool false]) 5 5 Tryz.underlying33 hi hz0 hz1 hz2 rfl (by decide) _ _ _ rfl (hrow.alloc _) ⟨W.heap.size, 0, none⟩ 1 1 (M.cell (f, g, p, d, ca)) rfl rfl (mv_row (RowAt.newAt W (M.cell (f, g, p, d, ca)).toArray 40 _ rfl)) (mv_one _) (by unfold maxLen; omega) (by omega) (by simp; omega) ?_; intro v' w3 hown' hgrow _ hat; obtain ⟨g', cap', rfl⟩ := ownsRow_succ hown'; obtain ⟨hv1, hv2, hr2, hk2, hb2⟩ := hv.appended (by decide) hrow (by omega) (Nat.le_refl _) hown' hgrow; have hc1 := hv1.cell; have hf1 := hv1.frozen)
    obtain ⟨hq, hO, hB, hb⟩ := HW.out
    have hsz := hb2.size
    refine ⟨hk2.from _, ⟨hb2, fun q hq' => ?_⟩, ⟨_, hv2, ?_, fun q e hq' => ?_, fun q h => ⟨(hO q h).1, by have := (hO q h).2; omega⟩, hB, hb.trans (hb2.mono (by omega))⟩⟩
    · have h1 := (hO q hq').2
      exact ((grownBy_setCell' w3 Bo _).block q (by have := hgrow.size; simp at this; omega) (fun e => hB (by cases e; exact hq'))).trans ((hgrow.block q (by simp; omega) (fun e => hq q e.symm hq')).trans (Below.heap_alloc W _ _ h1))
    · rw [List.length_append, M.cells_snoc]
      exact hr2
    · rcases hat with h | h
      · exact hq q (h.symm.trans e) hq'
      · have h1 := (hO q hq').2
        rw [h] at e
        simp at e
        omega
  case done =>
    rintro D O xs W hD rfl ⟨v, hv, hrow, _, _, _, hb⟩ hK
    have hc := hv.cell
    go_wp2
    refine ⟨by simp, .inl ⟨_, _, rfl, run_takeDeferred hK, ?_⟩⟩
    exact ⟨_, results_tmp rfl _ _ _, v, rfl, owns_low (ownsRow_putObj hrow _ hK rfl) (by omega), hb.grown (grownBy_putObj' W D _) hb.size (fun k e => by cases e; omega)⟩
/-- THE CONTRACT of pseudo.List. -/
theorem plist_any (c : Nat → Int) (w : World) (hc : PosOk c) (hT : Tb w) : Calls Tryz.prog 25 #[.agg (posC c)] w (Z.End (D.lst c) w) := by
  obtain ⟨t0, _⟩ := pos_u8 hc (i := 78) (by decide) rfl
  obtain ⟨t, ht⟩ : ∃ t : Nat, c 78 = (t : Int) := ⟨(c 78).toNat, by omega⟩
  cases hok : Z.ok c
  · have HOf : Hid (∀ w, Calls Tryz.prog 69 #[.agg (posC c)] w fun e w' => e = .returned (.tuple #[.agg (Z.sd (fun _ => 0) 0#64 0#64), .bool false]) ∧ Below w.heap.size w w') := Lib.hid (fun w => by
      have := pof_any c w hc
      unfold Z.ofV at this
      rwa [if_neg (by rw [hok]; simp)] at this)
    have E := Lib.hid (show D.lst c = [] by unfold D.lst; rw [if_neg (by rw [hok]; simp)])
    have hp := PosAt.new w c
    have hb0 : Below w.heap.size w (w.alloc (.cells (posC c) 31)) := (Below.refl _ _).alloc (Nat.le_refl _) _
    obtain ⟨W, hW⟩ : ∃ W, w.alloc (.cells (posC c) 31) = W := ⟨_, rfl⟩
    rw [hW] at hp hb0
    have HP := Lib.hid hp
    have HB := Lib.hid hb0
    clear hok ht t0 hT hc hp hb0
    go_enter Tryz.func25, Tryz.ntmps25
    go_wp2_with (first
      | ((with_reducible refine wp_load_box rfl _ rfl ?_); refine ⟨_, _, rfl, HP.out, ?_⟩)
      | (go_at_call 69; refine (HOf.out _).mono ?_; rintro e w1 ⟨rfl, hb1⟩)
      | ((with_reducible refine wp_store_row' rfl 94 _ _ rfl ?_); refine ⟨w1.heap.size, 94, Z.sd (fun _ => 0) 0#64 0#64, rfl, rfl, ⟨_, heap_alloc_new _ _, (by rw [Z.sd_size]; rfl)⟩, Z.info _ _ _, Z.sd_one _ _ _, ?_⟩; intro W2 hP2 hR2))
    go_ret
    have hb3 := below_next HB.out hb1
    exact ⟨_, rfl, by rw [E.out]; exact World.ownsRow_nil _ _ _ _, hP2.below (hb3.alloc hb3.size _) hb3.size⟩
  · have ht1 : t ≤ 1 := by
      unfold Z.ok at hok
      simp at hok
      omega
    have := plist_in c t w hc hT ht ht1 hok
    rw [show D.lst c = Z.allR c (Z.own c) (Z.oth c) t (B.list (Z.own c)) by
      unfold D.lst
      rw [if_pos hok, ht, Int.toNat_natCast, ← all_eq c t hc ht ht1]
      rfl]
    exact this
end Go.Proofs.YtgkndhpolcnjbaaGreatDoor
