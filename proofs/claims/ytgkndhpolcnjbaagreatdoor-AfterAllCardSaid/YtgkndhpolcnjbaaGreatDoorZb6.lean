/- Several texts in one: AfDs, AfDa. -/

import Derived.Test.YtgkndhpolcnjbaaGreatDoorZh
import Derived.Test.YtgkndhpolcnjbaaGreatDoorZo
import Derived.Test.YtgkndhpolcnjbaaGreatDoorZa3
import Derived.Test.YtgkndhpolcnjbaaGreatDoorZb5
import Derived.Test.YtgkndhpolcnjbaaGreatDoorZd
namespace Go.Proofs.YtgkndhpolcnjbaaGreatDoor
open Go.RowKit Go.Sort
attribute [local go_sem] Oper.semAt_some
theorem A.dall_pred (c : Nat → Int) (t n : Nat) (h : 1 ≤ n) : A.dall c t n = A.dall c t (n - 1) ++ A.drowP c t n := by
  obtain ⟨k, rfl⟩ : ∃ k, n = k + 1 := ⟨n - 1, by omega⟩
  rw [A.dall, Nat.add_sub_cancel]
set_option maxRecDepth 100000 in
set_option maxHeartbeats 1000000 in
theorem d15list_out (c : Nat → Int) (w : World) (b1 b2 : Bool) (hb1 : decide (1 < c 78) = b1) (hb2 : (c 0 != 2) = b2) (hb : b1 = true ∨ b2 = true) : Calls Tryz.prog 54 #[.agg (posC c)] w (Z.End [] w) := by
  have hp := PosAt.new w c
  have hb0 : Below w.heap.size w (w.alloc (.cells (posC c) 31)) := (Below.refl _ _).alloc (Nat.le_refl _) _
  obtain ⟨W, hW⟩ : ∃ W, w.alloc (.cells (posC c) 31) = W := ⟨_, rfl⟩
  rw [hW] at hp hb0
  have h0 := hp.cell (i := 0) (by decide)
  have h78 := hp.cell (i := 78) (by decide)
  rw [show pk 0 = .u8 from rfl] at h0
  rw [show pk 78 = .u8 from rfl] at h78
  have hpl := hp.lt
  have HB := Lib.hid hb0
  clear hb0 hp
  rcases b1 with _ | _
  · obtain rfl : b2 = true := by simpa using hb
    clear hb
    go_enter Tryz.func54, Tryz.ntmps54
    go_wp2
    go_ret
    exact ⟨_, rfl, World.ownsRow_nil _ _ _ _, HB.out⟩
  · clear hb hb2
    go_enter Tryz.func54, Tryz.ntmps54
    go_wp2
    go_ret
    exact ⟨_, rfl, World.ownsRow_nil _ _ _ _, HB.out⟩
set_option maxRecDepth 100000 in
set_option maxHeartbeats 4000000 in
theorem d15list_in (c : Nat → Int) (t : Nat) (w : World) (hc : PosOk c) (ht : c 78 = (t : Int)) (ht1 : t ≤ 1) (hv : c 0 = 2) : Calls Tryz.prog 54 #[.agg (posC c)] w (Z.End (A.dall c t 5) w) := by
  have hp := PosAt.new w c
  have hb0 : Below w.heap.size w (w.alloc (.cells (posC c) 31)) := (Below.refl _ _).alloc (Nat.le_refl _) _
  obtain ⟨W, hW⟩ : ∃ W, w.alloc (.cells (posC c) 31) = W := ⟨_, rfl⟩
  rw [hW] at hp hb0
  have h0 := hp.cell (i := 0) (by decide)
  have h78 := hp.cell (i := 78) (by decide)
  rw [show pk 0 = .u8 from rfl] at h0
  rw [show pk 78 = .u8 from rfl] at h78
  have hpl := hp.lt
  rw [hv] at h0
  rw [ht] at h78
  have hbd := pos_bd hc
  have d1 : decide (1 < (t : Int)) = false := by simp; omega
  have htl : (t : Int) < 2 := by omega
  have HC : Hid (∀ w' : World, PosAt w' w.heap.size c → w'.cell? ⟨w.heap.size, 78, none⟩ = some (.int .u8 (t : Int)) ∧ (∀ k, k < 6 → w'.cell? ⟨w.heap.size, 66 + t * 6 + k, none⟩ = some (.int .u8 (c (66 + 6 * t + k)))) ∧ ∀ s, s < 64 → w'.cell? ⟨w.heap.size, 1 + s, none⟩ = some (.int .u8 (c (1 + s)))) := Lib.hid (fun w' hq => by
    have h78 := hq.cell (i := 78) (by decide)
    rw [ht, show pk 78 = .u8 from rfl] at h78
    refine ⟨h78, fun k hk => ?_, fun s hs => bd_cell hq.heap s hs⟩
    have := hq.cell (i := 66 + 6 * t + k) (by omega)
    rw [show pk (66 + 6 * t + k) = .u8 by unfold pk; rw [if_neg (by omega), if_neg (by omega), if_pos (by omega)]] at this
    rwa [show 66 + t * 6 + k = 66 + 6 * t + k by omega])
  have HK : Hid (∀ s, s < 64 → ∀ w, Calls Tryz.prog 59 #[.int .u8 (c (1 + s))] w fun e w' => e = .returned (.int .u8 (P.kind (c (1 + s)))) ∧ w = w') := Lib.hid (fun s hs w => d8kind_any _ w (hbd s hs).1 (hbd s hs).2)
  have HPk : Hid (∀ k, k < 6 → 0 ≤ c (66 + 6 * t + k)) := Lib.hid (fun k hk => (pos_u8 hc (i := 66 + 6 * t + k) (by omega) (by unfold pk; rw [if_neg (by omega), if_neg (by omega), if_pos (by omega)])).1)
  have HP0 := Lib.hid hp
  have HB0 := Lib.hid hb0
  clear hp hb0 hc ht hv hbd
  obtain ⟨i0, hi, hz0, hz1, hz2⟩ := info_parts Tryz.info_Mv
  go_enter Tryz.func54, Tryz.ntmps54
  go_wp2
  clear h0 h78 hpl
  go_loopw [3, 4] (fun x i wr => ∃ n : Nat, 1 ≤ n ∧ n ≤ 6 ∧ i = .int .u8 (n : Int) ∧ wr.ownsRow (w.heap.size + 1) 40 5 x (A.dall c t (n - 1)).length (M.cells (A.dall c t (n - 1))) ∧ PosAt wr w.heap.size c ∧ Below w.heap.size w wr) (fun _ i _ => 6 - (intOf i).toNat)
  case atStart => exact ⟨1, by omega, by omega, rfl, World.ownsRow_nil _ _ _ _, HP0.out, HB0.out⟩
  case round =>
    obtain ⟨n, hn1, hn6, rfl, hown, hp, hbr⟩ := hrel
    by_cases hlt : n < 6
    · have hd5 : decide ((n : Int) ≤ 5) = true := by simp; omega
      have hlA := A.dall_len c t (n - 1)
      obtain ⟨LA, hLA⟩ : ∃ LA, A.dall c t (n - 1) = LA := ⟨_, rfl⟩
      have hst : A.dall c t n = LA ++ A.drowP c t n := by rw [A.dall_pred c t n hn1, hLA]
      rw [hLA] at hown hlA
      have hx0 := HPk.out n hlt
      obtain ⟨x, hx⟩ : ∃ x, c (66 + 6 * t + n) = x := ⟨_, rfl⟩
      have HOw := Lib.hid hown
      have HPr := Lib.hid hp
      have HBr := Lib.hid hbr
      have HN := Lib.hid (And.intro hn1 (And.intro hlt hlA))
      clear hLA hown hp hbr
      cases hz : decide (0 < x)
      · have HS2 := Lib.hid (show A.dall c t n = LA by rw [hst]; unfold A.drowP; rw [if_pos (by rw [hx]; simp at hz; omega), List.append_nil])
        obtain ⟨c78, hcell, _⟩ := HC.out wr HPr.out
        have hk1 := hcell n hlt
        rw [hx] at hk1
        have hbl := HPr.out.lt
        have hlt6 : (n : Int) < 6 := by omega
        have HX := Lib.hid hx
        clear hcell hst hx hx0 hn1 hn6 hlA
        go_wp2_with fail
        clear c78 hk1 hbl
        go_loopw [3, 5] (fun x i wr => i = .int .i64 0 ∧ wr.ownsRow (w.heap.size + 1) 40 5 x LA.length (M.cells LA) ∧ PosAt wr w.heap.size c ∧ Below w.heap.size w wr) (fun _ i _ => 0)
        case atStart => exact ⟨rfl, HOw.out, HPr.out, HBr.out⟩
        case round =>
          obtain ⟨rfl, hown, hp, hbr⟩ := hrel
          obtain ⟨c78, hcell, _⟩ := HC.out wr hp
          have hk1 := hcell n hlt
          rw [HX.out] at hk1
          have hbl := hp.lt
          have HO := Lib.hid hown
          have HPq := Lib.hid hp
          have HBq := Lib.hid hbr
          clear hcell hown hp hbr
          go_wp2
          go_roundw
          case rel => exact ⟨n + 1, by omega, by omega, by go_num, by rw [Nat.add_sub_cancel, HS2.out]; exact HO.out, HPq.out, HBq.out⟩
          case measure => simp [intOf]; omega
      · have HS2 := Lib.hid (show A.dall c t n = LA ++ A.drow c n 64 by rw [hst]; unfold A.drowP; rw [if_neg (by rw [hx]; simp at hz; omega)])
        have hlt6 : (n : Int) < 6 := by omega
        clear hst hx0 hn1 hn6 hlA
        go_wp2_with fail
        go_loopw [3, 5] (fun x i wr => ∃ j : Nat, j ≤ 64 ∧ i = .int .i64 (j : Int) ∧ wr.ownsRow (w.heap.size + 1) 40 5 x (LA ++ A.drow c n j).length (M.cells (LA ++ A.drow c n j)) ∧ PosAt wr w.heap.size c ∧ Below w.heap.size w wr) (fun _ i _ => 64 - (intOf i).toNat)
        case atStart => exact ⟨0, by omega, rfl, by rw [show A.drow c n 0 = [] from rfl, List.append_nil]; exact HOw.out, HPr.out, HBr.out⟩
        case round =>
          obtain ⟨j, hj, rfl, hown, hp, hbr⟩ := hrel
          obtain ⟨c78, hcell, hbd⟩ := HC.out wr hp
          have hk1 := hcell n hlt
          rw [hx] at hk1
          have hbl := hp.lt
          by_cases hlj : j < 64
          · have hcl := hbd j hlj
            have HKj := Lib.hid (HK.out j hlj)
            have hsq : A.drow c n (j + 1) = A.drow c n j ++ A.dsq c n j := rfl
            obtain ⟨k, hk⟩ : ∃ k, P.kind (c (1 + j)) = k := ⟨_, rfl⟩
            rw [hk] at HKj
            have hlen : (LA ++ A.drow c n j).length ≤ 500 := by have := HN.out.2.2; have := A.drow_len c n j; simp; omega
            have w8 := i8_sq j hlj
            have hdef : A.dsq c n j = if k ≠ 0 ∨ (n = 1 ∧ (j < 8 ∨ 55 < j)) then [] else [A.dmv n j] := by unfold A.dsq; rw [hk]
            clear hcell hbd hk
            have HJ := Lib.hid hj
            clear hj
            cases dk : (k != 0)
            · cases d1n : ((n : Int) == 1)
              · have HQ := Lib.hid (show LA ++ A.drow c n (j + 1) = (LA ++ A.drow c n j) ++ [A.dmv n j] by rw [hsq, hdef, if_neg (by simp at *; omega), ← List.append_assoc])
                obtain ⟨LB, hLB⟩ : ∃ LB, LA ++ A.drow c n j = LB := ⟨_, rfl⟩
                rw [hLB] at hown hlen HQ
                clear hsq hdef hLB
                go_wp2_with (first
                  | (go_at_call 59; refine (HKj.out _).mono ?_; rintro e w4 ⟨rfl, rfl⟩)
                  | (at_builtin; refine wpList_append_own_at _ rfl _ _ 33 rfl (w.heap.size + 1) 40 i0 (.agg #[.int .i8 0, .int .i8 0, .int .u8 0, .int .u8 0, .bool false]) 5 5 Tryz.underlying33 hi hz0 hz1 hz2 rfl (by decide) _ _ _ rfl (hown.alloc _) ⟨_, 0, none⟩ 1 1 (M.cell (A.dmv n j)) rfl rfl (mv_row (RowAt.newAt wr (M.cell (A.dmv n j)).toArray 40 _ (by first | rfl | simp))) (mv_one _) (by unfold maxLen; omega) (by omega) (by simp; omega) ?_; intro v' w4 hown4 hgrow _ hat))
                go_roundw
                case measure => simp [intOf]; omega
                refine ⟨j + 1, by omega, by go_num, ?_, ?_, ?_⟩
                · rw [HQ.out, List.length_append, M.cells_snoc]; exact hown4
                · exact (hp.alloc _).grown hgrow (fun q hq => by have := (hown.lt q hq).1; omega)
                · exact (hbr.alloc hbr.size _).grown hgrow (by simp; have := hbr.size; omega) (fun q hq => by have := (hown.lt q hq).1; omega)
              · cases d8 : decide ((j : Int) < 8)
                · cases d55 : decide (55 < (j : Int))
                  · have HQ := Lib.hid (show LA ++ A.drow c n (j + 1) = (LA ++ A.drow c n j) ++ [A.dmv n j] by rw [hsq, hdef, if_neg (by simp at *; omega), ← List.append_assoc])
                    obtain ⟨LB, hLB⟩ : ∃ LB, LA ++ A.drow c n j = LB := ⟨_, rfl⟩
                    rw [hLB] at hown hlen HQ
                    clear hsq hdef hLB
                    go_wp2_with (first
                      | (go_at_call 59; refine (HKj.out _).mono ?_; rintro e w4 ⟨rfl, rfl⟩)
                      | (at_builtin; refine wpList_append_own_at _ rfl _ _ 33 rfl (w.heap.size + 1) 40 i0 (.agg #[.int .i8 0, .int .i8 0, .int .u8 0, .int .u8 0, .bool false]) 5 5 Tryz.underlying33 hi hz0 hz1 hz2 rfl (by decide) _ _ _ rfl (hown.alloc _) ⟨_, 0, none⟩ 1 1 (M.cell (A.dmv n j)) rfl rfl (mv_row (RowAt.newAt wr (M.cell (A.dmv n j)).toArray 40 _ (by first | rfl | simp))) (mv_one _) (by unfold maxLen; omega) (by omega) (by simp; omega) ?_; intro v' w4 hown4 hgrow _ hat))
                    go_roundw
                    case measure => simp [intOf]; omega
                    refine ⟨j + 1, by omega, by go_num, ?_, ?_, ?_⟩
                    · rw [HQ.out, List.length_append, M.cells_snoc]; exact hown4
                    · exact (hp.alloc _).grown hgrow (fun q hq => by have := (hown.lt q hq).1; omega)
                    · exact (hbr.alloc hbr.size _).grown hgrow (by simp; have := hbr.size; omega) (fun q hq => by have := (hown.lt q hq).1; omega)
                  · have HQ := Lib.hid (show LA ++ A.drow c n (j + 1) = LA ++ A.drow c n j by rw [hsq, hdef, if_pos (by simp at *; omega), List.append_nil])
                    have HO := Lib.hid hown
                    have HPq := Lib.hid hp
                    have HBq := Lib.hid hbr
                    clear hsq hdef hown hp hbr
                    go_wp2_with (go_at_call 59; refine (HKj.out _).mono ?_; rintro e w4 ⟨rfl, rfl⟩)
                    go_roundw
                    case rel => exact ⟨j + 1, by omega, by go_num, by rw [HQ.out]; exact HO.out, HPq.out, HBq.out⟩
                    case measure => simp [intOf]; omega
                · have HQ := Lib.hid (show LA ++ A.drow c n (j + 1) = LA ++ A.drow c n j by rw [hsq, hdef, if_pos (by simp at *; omega), List.append_nil])
                  have HO := Lib.hid hown
                  have HPq := Lib.hid hp
                  have HBq := Lib.hid hbr
                  clear hsq hdef hown hp hbr
                  go_wp2_with (go_at_call 59; refine (HKj.out _).mono ?_; rintro e w4 ⟨rfl, rfl⟩)
                  go_roundw
                  case rel => exact ⟨j + 1, by omega, by go_num, by rw [HQ.out]; exact HO.out, HPq.out, HBq.out⟩
                  case measure => simp [intOf]; omega
            · have HQ := Lib.hid (show LA ++ A.drow c n (j + 1) = LA ++ A.drow c n j by rw [hsq, hdef, if_pos (by simp at *; omega), List.append_nil])
              have HO := Lib.hid hown
              have HPq := Lib.hid hp
              have HBq := Lib.hid hbr
              clear hsq hdef hown hp hbr
              go_wp2_with (go_at_call 59; refine (HKj.out _).mono ?_; rintro e w4 ⟨rfl, rfl⟩)
              go_roundw
              case rel => exact ⟨j + 1, by omega, by go_num, by rw [HQ.out]; exact HO.out, HPq.out, HBq.out⟩
              case measure => simp [intOf]; omega
          · obtain rfl : j = 64 := by omega
            have HO := Lib.hid hown
            have HPq := Lib.hid hp
            have HBq := Lib.hid hbr
            clear hown hp hbr
            go_wp2
            have hn := HN.out
            go_roundw
            case rel => exact ⟨n + 1, by omega, by omega, by go_num, by rw [Nat.add_sub_cancel, HS2.out]; exact HO.out, HPq.out, HBq.out⟩
            case measure => simp [intOf]; omega
    · obtain rfl : n = 6 := by omega
      go_wp2
      go_ret
      exact ⟨_, rfl, owns_low hown (by omega), hbr⟩
theorem d15list_any (c : Nat → Int) (w : World) (hc : PosOk c) : Calls Tryz.prog 54 #[.agg (posC c)] w (Z.End (A.drops c) w) := by
  rw [A.drops_eq c (pos_bd hc)]
  obtain ⟨t0, _⟩ := pos_u8 hc (i := 78) (by decide) rfl
  by_cases h1 : c 78 ≤ 1 ∧ c 0 = 2
  · rw [if_pos h1]
    exact d15list_in c (c 78).toNat w hc (by omega) (by omega) h1.2
  · rw [if_neg h1]
    refine d15list_out c w _ _ rfl rfl ?_
    by_cases h : c 78 ≤ 1
    · exact .inr (by simp; exact fun e => h1 ⟨h, e⟩)
    · exact .inl (by simp; omega)
end Go.Proofs.YtgkndhpolcnjbaaGreatDoor
namespace Go.Proofs.YtgkndhpolcnjbaaGreatDoor
open Go.RowKit Go.Sort
attribute [local go_sem] Oper.semAt_some
/-- Moves that a slice reads are put behind a row. -/
theorem A.append_reads {ops : Array Oper} {rest : List Oper} {o : Oper} {a : Act} {w : World} {Q : Exit → Act → World → Prop} (hgd : o.guard = none) (s x : Operand)
    (ho : o.op = .call { callee := .builtin .append, args := #[s, x], argTypes := #[33, 33] })
    (base : Nat) (v : Value) (n : Nat) (xs : List Value) (hs : a.eval s = v) (hown : w.ownsRow base 40 5 v n xs) (u : Value) (l : List Mv) (hx : a.eval x = u) (hr : M.Reads w u l) (hN : n + l.length ≤ 100000) (hbase : base ≤ w.heap.size)
    (h : ∀ v' w', w'.ownsRow base 40 5 v' (n + l.length) (xs ++ M.cells l) → w.grownBy w' v.ownBlock → wpList Tryz.prog ops Q rest (a.put o.dst v') w') : wpList Tryz.prog ops Q (o :: rest) a w := by
  obtain ⟨i0, hi, hz0, hz1, hz2⟩ := info_parts Tryz.info_Mv
  obtain ⟨ao, cap, rfl, h2, h3, h4, h5⟩ := hr
  by_cases hz : 0 < l.length
  · obtain ⟨b, off, rfl, hbb, hcc⟩ := h5 hz
    exact wpList_append_own _ hgd _ _ 33 ho base 40 i0 (.agg #[.int .i8 0, .int .i8 0, .int .u8 0, .int .u8 0, .bool false]) 5 5 Tryz.underlying33 hi hz0 hz1 hz2 rfl (by decide) _ _ _ hs hown ⟨b, off, none⟩ l.length cap (M.cells l) hx (M.cells_len _) (fun j u hu => by rw [Addr.add_lit]; exact hcc j u hu) (M.cells_one _) (by unfold maxLen; omega) (by omega) hbase (fun v' w' h1 h2 _ => h v' w' h1 h2)
  · have e0 : l = [] := List.eq_nil_of_length_eq_zero (by omega)
    subst e0
    cases ao with
    | none =>
      obtain ⟨_, rfl⟩ := h4 rfl
      refine wpList_append_own_none hgd _ _ 33 ho base 40 i0 5 Tryz.underlying33 hi _ _ _ hs hown hx (h v w (by simpa [M.cells] using hown) ⟨rfl, rfl, rfl, Nat.le_refl _, fun _ _ _ => rfl⟩)
    | some ad =>
      exact wpList_append_own _ hgd _ _ 33 ho base 40 i0 (.agg #[.int .i8 0, .int .i8 0, .int .u8 0, .int .u8 0, .bool false]) 5 5 Tryz.underlying33 hi hz0 hz1 hz2 rfl (by decide) _ _ _ hs hown ad 0 cap (M.cells []) hx rfl (fun j u hu => by cases hu) (M.cells_one _) (by unfold maxLen; omega) (by omega) hbase (fun v' w' h1 h2 _ => h v' w' h1 h2)
set_option maxRecDepth 100000 in
set_option maxHeartbeats 2000000 in
theorem d16all_any (c : Nat → Int) (w : World) (hc : PosOk c) : Calls Tryz.prog 14 #[.agg (posC c)] w (Z.End (A.all c) w) := by
  have hp := PosAt.new w c
  have hbr : Below w.heap.size w (w.alloc (.cells (posC c) 31)) := (Below.refl _ _).alloc (Nat.le_refl _) _
  obtain ⟨W, hW⟩ : ∃ W, w.alloc (.cells (posC c) 31) = W := ⟨_, rfl⟩
  rw [hW] at hp hbr
  have hown : W.ownsRow (w.heap.size + 1) 40 5 (.slice none 0 0) 0 [] := World.ownsRow_nil _ _ _ _
  obtain ⟨l1, e1⟩ : ∃ l1, D.lst c = l1 := ⟨_, rfl⟩
  obtain ⟨l2, e2⟩ : ∃ l2, (T.clist c).map T.toMv = l2 := ⟨_, rfl⟩
  obtain ⟨l3, e3⟩ : ∃ l3, A.drops c = l3 := ⟨_, rfl⟩
  have n1 : l1.length ≤ 30000 := by rw [← e1]; exact lst_len c
  have n2 : l2.length ≤ 2 := by rw [← e2, List.length_map]; exact T.clist_len c
  have n3 : l3.length ≤ 320 := by
    rw [← e3, A.drops_eq c (pos_bd hc)]
    split
    · have := A.dall_len c (c 78).toNat 5
      omega
    · simp
  have HE := Lib.hid (show A.all c = l1 ++ (l2 ++ l3) by unfold A.all; rw [e1, e2, e3])
  have H1 := Lib.hid (fun w => e1 ▸ d13list_any c w hc)
  have H2 := Lib.hid (fun w => d14list_row c l2 w hc e2)
  have H3 := Lib.hid (fun w => e3 ▸ d15list_any c w hc)
  clear e1 e2 e3 hc
  go_enter Tryz.func14, Tryz.ntmps14
  go_wp2_with (first
    | ((with_reducible refine wp_load_box rfl _ rfl ?_); refine ⟨_, _, rfl, (by assumption), ?_⟩)
    | (go_at_call 52; refine (H1.out _).mono ?_; rintro e w1 ⟨v1, rfl, hown1, hb1⟩; have hr := M.reads_own hown1; have hwl := hp.lt; have hws := hb1.size; replace hown := owns_below hown hb1; replace hp := hp.below hb1; replace hbr := below_next hbr hb1; clear hown1 hb1)
    | (go_at_call 53; refine (H2.out _).mono ?_; rintro e w1 ⟨v1, rfl, hown1, hb1⟩; have hr := M.reads_own hown1; have hwl := hp.lt; have hws := hb1.size; replace hown := owns_below hown hb1; replace hp := hp.below hb1; replace hbr := below_next hbr hb1; clear hown1 hb1)
    | (go_at_call 54; refine (H3.out _).mono ?_; rintro e w1 ⟨v1, rfl, hown1, hb1⟩; have hr := M.reads_own hown1; have hwl := hp.lt; have hws := hb1.size; replace hown := owns_below hown hb1; replace hp := hp.below hb1; replace hbr := below_next hbr hb1; clear hown1 hb1)
    | (at_builtin; refine A.append_reads rfl _ _ rfl (w.heap.size + 1) _ _ _ rfl hown _ _ rfl hr (by omega) (by omega) ?_; intro v7 w7 hown7 hg7; replace hp := hp.grown hg7 (fun q hq => by have := (hown.lt q hq).1; omega); replace hbr := hbr.grown hg7 hbr.size (fun q hq => by have := (hown.lt q hq).1; omega); replace hown := hown7; clear hr hg7 hown7 hwl hws))
  go_ret
  refine ⟨_, rfl, ?_, hbr⟩
  rw [HE.out]
  have := owns_low hown (show w.heap.size ≤ w.heap.size + 1 by omega)
  simpa [M.cells, Nat.add_assoc] using this
end Go.Proofs.YtgkndhpolcnjbaaGreatDoor
