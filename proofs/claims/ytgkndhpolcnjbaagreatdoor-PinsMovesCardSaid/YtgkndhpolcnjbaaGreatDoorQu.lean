/- Several texts in one: Pins, PinsOf, PinsOn. -/

import Derived.Test.YtgkndhpolcnjbaaGreatDoorQt
import Derived.Test.YtgkndhpolcnjbaaGreatDoorQd
namespace Go.Proofs.YtgkndhpolcnjbaaGreatDoor
open Go.RowKit Go.Sort
set_option maxRecDepth 100000 in
set_option maxHeartbeats 1000000 in
theorem pgoes_any (kind : Int) (d : Nat) (w : World) (hd : d < 8) :
    Calls Tryz.prog 197 #[.int .u8 kind, .int .i64 (d : Int)] w fun e w' => e = .returned (.bool (N.goes kind d)) ∧ w = w' := by
  have hm : (d : Int).tmod 2 = (d : Int) % 2 := Int.tmod_eq_emod_of_nonneg (by omega)
  have e0 : ((d : Int) % 2 == 0) = (d % 2 == 0) := by rw [Bool.eq_iff_iff]; simp; omega
  have e1 : ((d : Int) % 2 == 1) = (d % 2 == 1) := by rw [Bool.eq_iff_iff]; simp; omega
  have hg : N.goes kind d = (kind == 5 || (d % 2 == 0 && kind == 4 || d % 2 == 1 && kind == 3)) := rfl
  cases h5 : (kind == 5) <;> cases h4 : (kind == 4) <;> cases h3 : (kind == 3) <;> cases g0 : (d % 2 == 0) <;> cases g1 : (d % 2 == 1)
  all_goals
    rw [g0] at e0
    rw [g1] at e1
    rw [h5, h4, h3, g0, g1] at hg
    have Hg := Lib.hid hg
    clear hg g0 g1
    go_enter Tryz.func197, Tryz.ntmps197
    go_wp2
    go_ret
    exact ⟨ret_bool (by rw [Hg.out]; rfl), rfl⟩
theorem pgoes_eq (kind : Int) (d : Nat) (b : Bool) (w : World) (hd : d < 8) (h : N.goes kind d = b) :
    Calls Tryz.prog 197 #[.int .u8 kind, .int .i64 (d : Int)] w fun e w' => e = .returned (.bool b) ∧ w = w' := by
  rw [← h]; exact pgoes_any kind d w hd
namespace N
def pinV (x : Int × Int × BitVec 64) : List Value := [.int .i64 x.1, .int .i64 x.2.1, .int .u64 (U x.2.2)]
def cells (l : List (Int × Int × BitVec 64)) : List Value := l.flatMap pinV
theorem cells_len (l : List (Int × Int × BitVec 64)) : (cells l).length = l.length * 3 := by
  unfold cells
  induction l with
  | nil => rfl
  | cons a l ih => rw [List.flatMap_cons, List.length_append, ih]; simp [pinV]; omega
theorem cells_snoc (l : List (Int × Int × BitVec 64)) (x : Int × Int × BitVec 64) : cells (l ++ [x]) = cells l ++ pinV x := by simp [cells]
theorem cells_at (l : List (Int × Int × BitVec 64)) (i : Nat) (x : Int × Int × BitVec 64) (h : l[i]? = some x) (j : Nat) (v : Value) (hv : (pinV x)[j]? = some v) : (cells l)[i * 3 + j]? = some v := by
  induction l generalizing i with
  | nil => cases h
  | cons a l ih =>
    unfold cells
    rw [List.flatMap_cons]
    cases i with
    | zero =>
      simp at h
      subst h
      have : j < (pinV a).length := (List.getElem?_eq_some_iff.1 hv).1
      rw [List.getElem?_append_left (by omega), Nat.zero_mul, Nat.zero_add, hv]
    | succ i =>
      rw [List.getElem?_append_right (by simp [pinV]; omega), show (i + 1) * 3 + j - (pinV a).length = i * 3 + j by simp [pinV]; omega]
      exact ih i (by simpa using h)
def upTo (c : Nat → Int) (color k : Int) (n : Nat) : List (Int × Int × BitVec 64) := (List.range n).filterMap (res c color k)
theorem upTo_succ (c : Nat → Int) (color k : Int) (n : Nat) : upTo c color k (n + 1) = upTo c color k n ++ (match res c color k n with | some x => [x] | none => []) := by
  unfold upTo
  rw [List.range_succ, List.filterMap_append]
  congr 1
  cases h : res c color k n <;> simp [h]
theorem upTo_len (c : Nat → Int) (color k : Int) (n : Nat) : (upTo c color k n).length ≤ n := by
  have := List.length_filterMap_le (res c color k) (List.range n)
  simpa [upTo] using this
/-- A color's pins. -/
def pins (c : Nat → Int) (color : Int) : List (Int × Int × BitVec 64) := if color ≤ 1 ∧ 0 ≤ S.find c color 6 then upTo c color (S.find c color 6) 8 else []
def End (T : TypeId) (l : List (Int × Int × BitVec 64)) (w : World) (e : Ending) (w' : World) : Prop := ∃ v, e = .returned v ∧ w'.ownsRow (w.heap.size + 1) T 3 v l.length (cells l) ∧ Below w.heap.size w w'
end N
theorem ne_f {a : Int} (h : (a != 0) = false) : (a == 0) = true := by simpa using h
theorem ne_t {a : Int} (h : (a != 0) = true) : (a == 0) = false := by simpa using h
theorem eq_f {a : Int} (h : (a == 0) = false) : (a != 0) = true := by simpa using h
theorem eq_t {a : Int} (h : (a == 0) = true) : (a != 0) = false := by simpa using h
theorem Tryz.info_pin : (Tryz.prog.info? 111).map (fun i => (i.zero, i.size, i.bytes)) = some (some (.agg #[.int .i64 0, .int .i64 0, .int .u64 0]), 3, 24) := by kernel_rfl
theorem pins_new (w : World) (a b : Int) (v : BitVec 64) (T : TypeId) : ∀ (j : Nat) (u : Value), [Value.int .i64 a, .int .i64 b, .int .u64 (U v)][j]? = some u → (w.alloc (.cells #[.int .i64 a, .int .i64 b, .int .u64 (U v)] T)).cell? ((⟨w.heap.size, 0, none⟩ : Addr).add j) = some u := by
  intro j u h
  have : ((⟨w.heap.size, 0, none⟩ : Addr).add j) = ⟨w.heap.size, j, none⟩ := by unfold Addr.add; split <;> simp_all
  rw [this, World.cell?_alloc_at _ _ _ _ rfl]
  match j, h with
  | 0, h | 1, h | 2, h => simpa using h
set_option maxRecDepth 100000 in
set_option maxHeartbeats 4000000 in
theorem pins_any (c : Nat → Int) (color : Int) (w : World) (hc : BdOk c) (hT : Tb w) :
    Calls Tryz.prog 138 #[.agg (posC c), .int .u8 color] w (N.End 111 (N.pins c color) w) := by
  have Hc := Lib.hid hc
  have HT := Lib.hid (fun W (hb : Below w.heap.size w W) => tb_below hT hb)
  clear hT
  have hb0 : Below w.heap.size w (w.alloc (.cells (posC c) 31)) := (Below.refl _ _).alloc (Nat.le_refl _) _
  have hp := PosAt.new w c
  by_cases h1 : color ≤ 1
  · rcases D.find_bd c color 6 with hf | ⟨k, hk, hf⟩
    · rw [← find_eq c color hc] at hf
      have Hn := Lib.hid (show N.pins c color = [] by unfold N.pins; rw [hf, if_neg (by simp)])
      have Hf := Lib.hid hf
      clear hf hc
      go_enter Tryz.func138, Tryz.ntmps138
      go_wp2
      go_step3
      go_wp2_with (first
        | ((with_reducible refine wp_load_box rfl _ rfl ?_); refine ⟨_, _, rfl, (by assumption), ?_⟩)
        | (go_at_call 80; refine (find_any c _ _ _ Hc.out (HT.out _ hb0)).mono ?_; rw [Hf.out]; rintro e u ⟨rfl, hb⟩; replace hp := hp.below hb; replace hb0 := below_next hb0 hb; clear hb))
      rw [Exit.noGoto_ret]
      go_ret
      rw [Hn.out]
      exact ⟨_, rfl, World.ownsRow_nil _ _ _ _, hb0⟩
    · rw [← find_eq c color hc] at hf
      have Hn := Lib.hid (show N.pins c color = N.upTo c color (k : Int) 8 by unfold N.pins; rw [hf, if_pos ⟨h1, by omega⟩])
      have Hf := Lib.hid hf
      clear hf hc
      go_enter Tryz.func138, Tryz.ntmps138
      go_wp2
      go_step3
      go_wp2_with (first
        | ((with_reducible refine wp_load_box rfl _ rfl ?_); refine ⟨_, _, rfl, (by assumption), ?_⟩)
        | (go_at_call 80; refine (find_any c _ _ _ Hc.out (HT.out _ hb0)).mono ?_; rw [Hf.out]; rintro e u ⟨rfl, hb⟩; replace hp := hp.below hb; replace hb0 := below_next hb0 hb; clear hb))
      refine region_below (by kernel_rfl) (by kernel_rfl) ?_
      repeat (first
        | go_big_quiet_step (first
          | (go_at_call 57; exact quiet_below (all_any c _ Hc.out))
          | (go_at_call 58; exact quiet_below (of_any c _ _ _ Hc.out)))
        | (go_big_quiet_want; refine quiet_load_box _ rfl ⟨_, _, rfl, hp, ?_⟩; simp only [Act.put, List.setIfInBounds_toArray, List.set_cons_succ, List.set_cons_zero]; go_big_quiet_on))
      refine wpQuiet_nil ?_
      intro w3 hb3
      replace hp := hp.below hb3
      replace hb0 := below_next hb0 hb3
      clear hb3
      go_wp2
      go_step3
      go_wp2
      have hp0 := Lib.hid hp
      have hbb := Lib.hid hb0
      clear hp hb0
      obtain ⟨i0, hi, hz0, hz1, hz2⟩ := info_parts Tryz.info_pin
      go_loopw [8, 26] (fun v i wr => ∃ n : Nat, n ≤ 8 ∧ i = .int .i64 (n : Int) ∧ wr.ownsRow (w.heap.size + 1) 111 3 v (N.upTo c color k n).length (N.cells (N.upTo c color k n)) ∧ PosAt wr w.heap.size c ∧ Below w.heap.size w wr) (fun _ i _ => 8 - (intOf i).toNat)
      case atStart => exact ⟨0, by omega, rfl, World.ownsRow_nil _ _ _ _, hp0.out, hbb.out⟩
      case round =>
        obtain ⟨n, hn, rfl, hown, hp, hbr⟩ := hrel
        by_cases hlt : n < 8
        · have hst := N.upTo_succ c color k n
          have hr : N.res c color k n = if N.pinB c color k n = true then some (B.first (N.fst c k n), B.first (N.byS c k n), N.lin c k n) else none := rfl
          have hpb : N.pinB c color k n = (U (bAnd (N.fst c k n) (S.of c color 0)) != 0 && (U (N.byS c k n) != 0 && (U (bAnd (N.byS c k n) (S.of c color 0)) == 0 && N.goes (P.kind (c (1 + (B.first (N.byS c k n)).toNat))) n))) := rfl
          cases p1 : (U (bAnd (N.fst c k n) (S.of c color 0)) != 0)
          · have e1 : (U (bAnd (bAnd (L.dir k n (S.all c)) (S.all c)) (S.of c color 0)) == 0) = true := ne_f p1
            rw [p1] at hpb
            rw [hpb, if_neg (by simp)] at hr
            rw [hr, List.append_nil] at hst
            have Hst := Lib.hid hst
            clear hst hr hpb p1
            go_wp2_with (first
            | (go_at_call 196; refine (dir_any _ n _ _ hlt (HT.out _ hbr)).mono ?_; rintro e u ⟨rfl, hb⟩; replace hp := hp.below hb; replace hown := owns_below hown hb; replace hbr := below_next hbr hb; clear hb))
            exact ⟨⟨n + 1, by omega, by go_num, by rw [Hst.out]; exact hown, hp, hbr⟩, by simp [intOf]; omega⟩
          · have e1 : (U (bAnd (bAnd (L.dir k n (S.all c)) (S.all c)) (S.of c color 0)) == 0) = false := ne_t p1
            cases p2 : (U (N.byS c k n) != 0)
            · have e2 : (U (bAndn (bAnd (L.dir k n (bAndn (S.all c) (bAnd (L.dir k n (S.all c)) (S.all c)))) (S.all c)) (bAnd (L.dir k n (S.all c)) (S.all c))) == 0) = true := ne_f p2
              rw [p1, p2] at hpb
              rw [hpb, if_neg (by simp)] at hr
              rw [hr, List.append_nil] at hst
              have Hst := Lib.hid hst
              clear hst hr hpb p1 p2
              go_wp2_with (first
            | (go_at_call 196; refine (dir_any _ n _ _ hlt (HT.out _ hbr)).mono ?_; rintro e u ⟨rfl, hb⟩; replace hp := hp.below hb; replace hown := owns_below hown hb; replace hbr := below_next hbr hb; clear hb))
              exact ⟨⟨n + 1, by omega, by go_num, by rw [Hst.out]; exact hown, hp, hbr⟩, by simp [intOf]; omega⟩
            · have e2 : (U (bAndn (bAnd (L.dir k n (bAndn (S.all c) (bAnd (L.dir k n (S.all c)) (S.all c)))) (S.all c)) (bAnd (L.dir k n (S.all c)) (S.all c))) == 0) = false := ne_t p2
              cases p3 : (U (bAnd (N.byS c k n) (S.of c color 0)) == 0)
              · have e3 : (U (bAnd (bAndn (bAnd (L.dir k n (bAndn (S.all c) (bAnd (L.dir k n (S.all c)) (S.all c)))) (S.all c)) (bAnd (L.dir k n (S.all c)) (S.all c))) (S.of c color 0)) != 0) = true := eq_f p3
                rw [p1, p2, p3] at hpb
                rw [hpb, if_neg (by simp)] at hr
                rw [hr, List.append_nil] at hst
                have Hst := Lib.hid hst
                clear hst hr hpb p1 p2 p3
                go_wp2_with (first
            | (go_at_call 196; refine (dir_any _ n _ _ hlt (HT.out _ hbr)).mono ?_; rintro e u ⟨rfl, hb⟩; replace hp := hp.below hb; replace hown := owns_below hown hb; replace hbr := below_next hbr hb; clear hb))
                exact ⟨⟨n + 1, by omega, by go_num, by rw [Hst.out]; exact hown, hp, hbr⟩, by simp [intOf]; omega⟩
              · have e3 : (U (bAnd (bAndn (bAnd (L.dir k n (bAndn (S.all c) (bAnd (L.dir k n (S.all c)) (S.all c)))) (S.all c)) (bAnd (L.dir k n (S.all c)) (S.all c))) (S.of c color 0)) != 0) = false := eq_t p3
                have hne : N.byS c k n ≠ 0#64 := by rw [U_ne] at p2; simpa using p2
                obtain ⟨sn, hfs, hsn, _, _⟩ := first_spec _ hne
                obtain ⟨x0, x1⟩ := Hc.out sn hsn
                rw [hfs, Int.toNat_natCast] at hpb
                have es : B.first (bAndn (bAnd (L.dir k n (bAndn (S.all c) (bAnd (L.dir k n (S.all c)) (S.all c)))) (S.all c)) (bAnd (L.dir k n (S.all c)) (S.all c))) = (sn : Int) := hfs
                cases p4 : N.goes (P.kind (c (1 + sn))) n
                · rw [p1, p2, p3, p4] at hpb
                  rw [hpb, if_neg (by simp)] at hr
                  rw [hr, List.append_nil] at hst
                  have Hst := Lib.hid hst
                  clear hst hr hpb p1 p2 p3 hne hfs
                  go_wp2_with (first
            | (go_at_call 196; refine (dir_any _ n _ _ hlt (HT.out _ hbr)).mono ?_; rintro e u ⟨rfl, hb⟩; replace hp := hp.below hb; replace hown := owns_below hown hb; replace hbr := below_next hbr hb; clear hb)
              | (go_at_call 83; refine (first_any _ _ (HT.out _ hbr)).mono ?_; rintro e w' ⟨rfl, rfl⟩; have hcl := hp.bd hsn)
              | (go_at_call 70; refine (kind_any _ _ x0 x1).mono ?_; rintro e w' ⟨rfl, rfl⟩)
              | (go_at_call 197; refine (pgoes_eq _ n _ _ hlt p4).mono ?_; rintro e w' ⟨rfl, rfl⟩))
                  exact ⟨⟨n + 1, by omega, by go_num, by rw [Hst.out]; exact hown, hp, hbr⟩, by simp [intOf]; omega⟩
                · rw [p1, p2, p3, p4] at hpb
                  rw [hpb, if_pos (by simp), hfs] at hr
                  rw [hr] at hst
                  have hlen := N.upTo_len c color k n
                  have Hst := Lib.hid hst
                  clear hst hr hpb p1 p2 p3 hne hfs
                  go_wp2_with (first
            | (go_at_call 196; refine (dir_any _ n _ _ hlt (HT.out _ hbr)).mono ?_; rintro e u ⟨rfl, hb⟩; replace hp := hp.below hb; replace hown := owns_below hown hb; replace hbr := below_next hbr hb; clear hb)
              | (go_at_call 83; refine (first_any _ _ (HT.out _ hbr)).mono ?_; rintro e w' ⟨rfl, rfl⟩; have hcl := hp.bd hsn)
              | (go_at_call 70; refine (kind_any _ _ x0 x1).mono ?_; rintro e w' ⟨rfl, rfl⟩)
              | (go_at_call 197; refine (pgoes_eq _ n _ _ hlt p4).mono ?_; rintro e w' ⟨rfl, rfl⟩)
              | (at_builtin; refine wpList_append_own _ rfl _ _ 165 rfl (w.heap.size + 1) 111 i0 (.agg #[.int .i64 0, .int .i64 0, .int .u64 0]) 3 24 Tryz.underlying165 hi hz0 hz1 hz2 rfl (by decide) _ _ _ rfl (hown.alloc _) ⟨_, 0, none⟩ 1 1 [.int .i64 (B.first (N.fst c k n)), .int .i64 (sn : Int), .int .u64 (U (N.lin c k n))] rfl rfl (pins_new _ _ _ _ _) (by intro q hq; simp at hq; rcases hq with rfl | rfl | rfl <;> rfl) (by unfold maxLen; omega) (by omega) (by have := hp.lt; simp; omega) ?_; intro v' w1 hown' hgrow _))
                  refine ⟨⟨n + 1, by omega, by go_num, ?_, ?_, ?_⟩, by simp [intOf]; omega⟩
                  · rw [Hst.out, N.cells_snoc, List.length_append]; exact hown'
                  · exact (hp.alloc _).grown hgrow (fun q hq => by have := (hown.lt q hq).1; omega)
                  · exact (hbr.alloc hbr.size _).grown hgrow (by have := hbr.size; simp; omega) (fun q hq => by have := (hown.lt q hq).1; omega)
        · obtain rfl : n = 8 := by omega
          go_wp2
          rw [Exit.noGoto_ret]
          go_ret
          rw [Hn.out]
          exact ⟨_, rfl, hown, hbr⟩
  · have Hn := Lib.hid (show N.pins c color = [] by unfold N.pins; rw [if_neg (fun h => h1 h.1)])
    go_enter Tryz.func138, Tryz.ntmps138
    go_wp2
    go_step3
    go_wp2
    rw [Exit.noGoto_ret]
    go_ret
    rw [Hn.out]
    exact ⟨_, rfl, World.ownsRow_nil _ _ _ _, hb0⟩
end Go.Proofs.YtgkndhpolcnjbaaGreatDoor
namespace Go.Proofs.YtgkndhpolcnjbaaGreatDoor
open Go.RowKit Go.Sort
namespace N
theorem res_bd (c : Nat → Int) (color k : Int) (d : Nat) (x : Int × Int × BitVec 64) (h : res c color k d = some x) : ∃ m s : Nat, m < 64 ∧ s < 64 ∧ x.1 = (m : Int) ∧ x.2.1 = (s : Int) := by
  unfold res at h
  split at h
  · rename_i hp
    unfold pinB at hp
    simp only [Bool.and_eq_true] at hp
    obtain ⟨h1, h2, _⟩ := hp
    have n1 : fst c k d ≠ 0#64 := fun e => by
      rw [e] at h1
      have : bAnd 0#64 (S.of c color 0) = 0#64 := by unfold bAnd; simp
      rw [this] at h1; cases h1
    have n2 : byS c k d ≠ 0#64 := fun e => by rw [e] at h2; cases h2
    obtain ⟨m, e1, m64, _⟩ := first_spec _ n1
    obtain ⟨s, e2, s64, _⟩ := first_spec _ n2
    cases h
    exact ⟨m, s, m64, s64, e1, e2⟩
  · cases h
theorem pins_bd (c : Nat → Int) (color : Int) (x : Int × Int × BitVec 64) (h : x ∈ pins c color) : ∃ m s : Nat, m < 64 ∧ s < 64 ∧ x.1 = (m : Int) ∧ x.2.1 = (s : Int) := by
  unfold pins at h
  split at h
  · unfold upTo at h
    rw [List.mem_filterMap] at h
    obtain ⟨d, _, hd⟩ := h
    exact res_bd _ _ _ d x hd
  · cases h
theorem pins_len (c : Nat → Int) (color : Int) : (pins c color).length ≤ 8 := by
  unfold pins
  split
  · exact upTo_len _ _ _ _
  · simp
/-- The men of some pins, as a set. -/
def men (l : List (Int × Int × BitVec 64)) : BitVec 64 := l.foldl (fun b x => bOr b (B.one x.1)) 0#64
theorem men_take (l : List (Int × Int × BitVec 64)) (k : Nat) (x : Int × Int × BitVec 64) (h : l[k]? = some x) : men (l.take (k + 1)) = bOr (men (l.take k)) (B.one x.1) := by
  unfold men
  rw [List.take_add_one, h, List.foldl_append]
  rfl
end N
/-- A row of structs of three cells that is owned and not empty. -/
theorem owns_open3 {w : World} {base : Nat} {e : TypeId} {v : Value} {n : Nat} {xs : List Value} (h : w.ownsRow base e 3 v n xs) (hn : 0 < n) :
    ∃ b cap, v = .slice (some ⟨b, 0, none⟩) n cap ∧ base ≤ b ∧ b < w.heap.size ∧ n ≤ cap ∧ cap ≤ maxLen ∧ ∀ j u, xs[j]? = some u → w.cell? ⟨b, j, none⟩ = some u := by
  rcases h.2 with ⟨_, rfl⟩ | ⟨g, cap, cur, rfl, hb, hg, hnc, hcm, hcs, htake⟩
  · omega
  · refine ⟨g, cap, rfl, hb, (Array.getElem?_eq_some_iff.1 hg).1, hnc, hcm, ?_⟩
    intro j u hu
    rw [← htake, List.getElem?_take] at hu
    split at hu
    · simp only [World.cell?, hg]
      simpa using hu
    · cases hu
theorem range3 {w : World} {b off : Nat} {x y z : Value} (h0 : w.cell? ⟨b, off, none⟩ = some x) (h1 : w.cell? ⟨b, off + 1, none⟩ = some y) (h2 : w.cell? ⟨b, off + 2, none⟩ = some z) : w.rangeAt b off [x, y, z] := by
  intro j v hv
  match j, hv with
  | 0, hv => simp at hv; subst hv; exact h0
  | 1, hv => simp at hv; subst hv; exact h1
  | 2, hv => simp at hv; subst hv; exact h2
theorem pin_range {w : World} {b : Nat} {l : List (Int × Int × BitVec 64)} (h : ∀ j u, (N.cells l)[j]? = some u → w.cell? ⟨b, j, none⟩ = some u) (i : Nat) (x : Int × Int × BitVec 64) (hx : l[i]? = some x) : w.rangeAt b (i * 3) [.int .i64 x.1, .int .i64 x.2.1, .int .u64 (U x.2.2)] :=
  range3 (by have := h (i * 3 + 0) _ (N.cells_at l i x hx 0 _ rfl); simpa using this) (h (i * 3 + 1) _ (N.cells_at l i x hx 1 _ rfl)) (h (i * 3 + 2) _ (N.cells_at l i x hx 2 _ rfl))
theorem Tryz.size_pin : (Tryz.prog.info? 111).map (·.size) = some 3 := by kernel_rfl
theorem pins_val (c : Nat → Int) (color : Int) (l : List (Int × Int × BitVec 64)) (w : World) (hc : BdOk c) (hT : Tb w) (h : N.pins c color = l) :
    Calls Tryz.prog 138 #[.agg (posC c), .int .u8 color] w (N.End 111 l w) := by
  rw [← h]; exact pins_any c color w hc hT
set_option maxRecDepth 100000 in
set_option maxHeartbeats 4000000 in
theorem pinsof_any (c : Nat → Int) (color : Int) (w : World) (hc : BdOk c) (hT : Tb w) :
    Calls Tryz.prog 76 #[.agg (posC c), .int .u8 color] w fun e w' => e = .returned (.int .u64 (U (N.men (N.pins c color)))) ∧ Below w.heap.size w w' := by
  have Hc := Lib.hid hc
  have hb0 : Below w.heap.size w (w.alloc (.cells (posC c) 31)) := (Below.refl _ _).alloc (Nat.le_refl _) _
  have HT := Lib.hid (tb_below hT hb0)
  have hp := PosAt.new w c
  have hbd := Lib.hid (N.pins_bd c color)
  have hl8 := N.pins_len c color
  obtain ⟨l, hle⟩ : ∃ l, N.pins c color = l := ⟨_, rfl⟩
  rw [hle] at hbd hl8
  have Hle := Lib.hid hle
  clear hT hc hle
  go_enter Tryz.func76, Tryz.ntmps76
  go_wp2_with (first
    | ((with_reducible refine wp_load_box rfl _ rfl ?_); refine ⟨_, _, rfl, (by assumption), ?_⟩)
    | fail)
  refine (pins_val c color l _ Hc.out HT.out Hle.out).mono ?_
  rintro e w1 ⟨v, rfl, hown, hb⟩
  have hb1 := below_next hb0 hb
  clear hb hb0 hp
  by_cases hl : 0 < l.length
  · obtain ⟨b, cap, rfl, hbb, hbs, hnc, hcm, hcells⟩ := owns_open3 hown hl
    have Hcells := Lib.hid hcells
    clear hcells hown
    unfold maxLen at hcm
    go_wp2
    go_loopw [5, 12] (fun v i wr => ∃ k : Nat, k ≤ l.length ∧ i = .int .i64 (k : Int) ∧ v = .int .u64 (U (N.men (l.take k))) ∧ Below w1.heap.size w1 wr) (fun _ i _ => l.length - (intOf i).toNat)
    case atStart => exact ⟨0, by omega, rfl, by simp [N.men]; rfl, Below.refl _ _⟩
    case round =>
      obtain ⟨k, hk, rfl, rfl, hbr⟩ := hrel
      by_cases hlt : k < l.length
      · obtain ⟨x, hx⟩ : ∃ x, l[k]? = some x := ⟨_, List.getElem?_eq_getElem hlt⟩
        obtain ⟨m, s, hm, hs, hxm, hxs⟩ := hbd.out x (List.mem_of_getElem? hx)
        have hrng := Lib.hid (pin_range (w := wr) (b := b) (fun j u hu => ((hbr.cell (p := ⟨b, j, none⟩) hbs).trans (Hcells.out j u hu))) k x hx)
        have Hm := Lib.hid (N.men_take l k x hx)
        rw [hxm] at Hm hrng
        have hone : IntKind.u64.wrap (2 ^ m) = U (B.one m) := B.one_val m (by omega) (by omega)
        have Hx := Lib.hid (And.intro hx (And.intro hxm hxs))
        clear hx hxm hxs
        go_wp2_with (first
          | ((with_reducible refine wp_load_elem rfl _ _ rfl Tryz.underlying111 rfl ?_); refine ⟨_, _, _, rfl, hrng.out, Tryz.size_pin, ?_⟩))
        exact ⟨⟨k + 1, by omega, by go_num, by rw [Hm.out], hbr.alloc hbr.size _⟩, by simp [intOf]; omega⟩
      · obtain rfl : k = l.length := by omega
        go_wp2
        go_ret
        exact ⟨by rw [List.take_length, Hle.out]; rfl, hb1.trans (hbr.mono hb1.size)⟩
  · have hz : l = [] := List.eq_nil_of_length_eq_zero (by omega)
    subst hz
    rcases hown.2 with ⟨rfl, _⟩ | ⟨g, cap, cur, rfl, _⟩
    all_goals
      go_wp2
      go_loopw [5, 12] (fun v i wr => i = .int .i64 0 ∧ v = .int .u64 0 ∧ wr = w1) (fun _ _ _ => 0)
      case atStart => exact ⟨rfl, rfl, rfl⟩
      case round =>
        obtain ⟨rfl, rfl, rfl⟩ := hrel
        go_wp2
        go_ret
        exact ⟨by rw [Hle.out]; rfl, hb1⟩
end Go.Proofs.YtgkndhpolcnjbaaGreatDoor
namespace Go.Proofs.YtgkndhpolcnjbaaGreatDoor
open Go.RowKit Go.Sort
namespace N
def at' (l : List (Int × Int × BitVec 64)) (s : Int) : Option (Int × Int × BitVec 64) := l.find? fun x => x.1 == s
def no : Int × Int × BitVec 64 := (0, 0, 0#64)
def onV (o : Option (Int × Int × BitVec 64)) : Value := .tuple #[.agg (pinV (o.getD no)).toArray, .bool o.isSome]
def on (c : Nat → Int) (s : Int) : Option (Int × Int × BitVec 64) := (at' (pins c 0) s).or (at' (pins c 1) s)
/-- Nothing among the first n. -/
def noneTo (l : List (Int × Int × BitVec 64)) (s : Int) (n : Nat) : Prop := ∀ x ∈ l.take n, (x.1 == s) = false
theorem noneTo_succ {l : List (Int × Int × BitVec 64)} {s : Int} {n : Nat} {x : Int × Int × BitVec 64} (h : noneTo l s n) (hx : l[n]? = some x) (hn : (x.1 == s) = false) : noneTo l s (n + 1) := fun y hy => by
  rw [List.take_add_one, hx] at hy
  rcases List.mem_append.1 hy with h1 | h1
  · exact h y h1
  · simp at h1; rw [h1]; exact hn
theorem at_none {l : List (Int × Int × BitVec 64)} {s : Int} (h : noneTo l s l.length) : at' l s = none := by
  unfold at'
  rw [List.find?_eq_none]
  intro x hx
  have := h x (by rw [List.take_length]; exact hx)
  simp at this ⊢; exact this
theorem at_some {l : List (Int × Int × BitVec 64)} {s : Int} {n : Nat} {x : Int × Int × BitVec 64} (h : noneTo l s n) (hx : l[n]? = some x) (hs : (x.1 == s) = true) : at' l s = some x := by
  obtain ⟨hn, e⟩ := List.getElem?_eq_some_iff.1 hx
  have hl : l = l.take n ++ x :: l.drop (n + 1) := by
    rw [← e, ← List.drop_eq_getElem_cons hn, List.take_append_drop]
  unfold at'
  rw [hl, List.find?_append, List.find?_eq_none.2 (fun y hy => by have := h y hy; simp at this ⊢; exact this), Option.none_or, List.find?_cons, hs]
end N
theorem results_cell_tmp {P : Program} {fn : Func} {p q : Tmp} {ty : TypeId} (h : fn.results = #[.cell p ty, .tmp q]) (tmps : Array Value) (w : World) (g : Nat) (t : TypeId) (cs : Array Value) (d : TypeDesc) (v : Value)
    (hp : tmps.getD p undef = .pointer (some ⟨g, 0, none⟩)) (hv : tmps.getD q undef = v) (hg : RowAt w g t cs)
    (hu : P.underlying ty = some d) (hd : (match d with | .struct _ | .array _ _ => true | _ => false) = true) (hi : (P.info? ty).map (·.size) = some cs.size) :
    (results fn tmps).run P w = .ok (.tuple #[.agg cs, v]) w := by
  have hp' : tmps[p]?.getD undef = .pointer (some ⟨g, 0, none⟩) := by simpa using hp
  have hv' : tmps[q]?.getD undef = v := by simpa using hv
  simp [results, h, hp', hv', asAddr, run_loadVar_row w g t ty cs (0, 0) d hg.heap hu hd hi]
theorem N.pinV_one (x : Int × Int × BitVec 64) : ((N.pinV x).toArray).all (·.oneCell') = true := by simp [N.pinV, Value.oneCell']
/-- None of the first colors has such a pin. -/
def N.done (c : Nat → Int) (s : Int) (k : Nat) : Prop := ∀ j : Nat, j < k → N.at' (N.pins c (j : Int)) s = none
theorem N.on_some {c : Nat → Int} {s : Int} {k : Nat} {x : Int × Int × BitVec 64} (h : N.done c s k) (hk : k < 2) (hx : N.at' (N.pins c (k : Int)) s = some x) : N.on c s = some x := by
  unfold N.on
  rcases (show k = 0 ∨ k = 1 by omega) with rfl | rfl
  · have : N.at' (N.pins c 0) s = some x := hx
    rw [this]; rfl
  · have h0 : N.at' (N.pins c 0) s = none := h 0 (by omega)
    have h1 : N.at' (N.pins c 1) s = some x := hx
    rw [h0, h1]; rfl
theorem N.on_none {c : Nat → Int} {s : Int} (h : N.done c s 2) : N.on c s = none := by
  unfold N.on
  have h0 : N.at' (N.pins c 0) s = none := h 0 (by omega)
  have h1 : N.at' (N.pins c 1) s = none := h 1 (by omega)
  rw [h0, h1]; rfl
set_option maxRecDepth 100000 in
set_option maxHeartbeats 4000000 in
theorem pon_any (c : Nat → Int) (s : Int) (w : World) (hc : BdOk c) (hT : Tb w) :
    Calls Tryz.prog 85 #[.agg (posC c), .int .i64 s] w fun e w' => e = .returned (N.onV (N.on c s)) ∧ Below w.heap.size w w' := by
  have Hc := Lib.hid hc
  have HT := Lib.hid (fun W (hb : Below w.heap.size w W) => tb_below hT hb)
  clear hT hc
  go_enter Tryz.func85, Tryz.ntmps85
  go_wp2
  have hp := Lib.hid ((PosAt.new w c).alloc (.cells #[.int .i64 0, .int .i64 0, .int .u64 0] 111))
  have hR : RowAt ((w.alloc (.cells (posC c) 31)).alloc (.cells #[.int .i64 0, .int .i64 0, .int .u64 0] 111)) (w.heap.size + 1) 111 #[.int .i64 0, .int .i64 0, .int .u64 0] := by
    have := RowAt.new (w.alloc (.cells (posC c) 31)) #[.int .i64 0, .int .i64 0, .int .u64 0] 111
    simpa using this
  have HR := Lib.hid hR
  have Hb0 := Lib.hid (((Below.refl w.heap.size w).alloc (Nat.le_refl _) (.cells (posC c) 31)).alloc (by simp) (.cells #[.int .i64 0, .int .i64 0, .int .u64 0] 111))
  clear hR
  go_loopw [6] (fun i wr => ∃ k : Nat, k ≤ 2 ∧ i = .int .u8 (k : Int) ∧ N.done c s k ∧ PosAt wr w.heap.size c ∧ RowAt wr (w.heap.size + 1) 111 #[.int .i64 0, .int .i64 0, .int .u64 0] ∧ Below w.heap.size w wr) (fun i _ => 2 - (intOf i).toNat)
  case atStart => exact ⟨0, by omega, rfl, fun j hj => by omega, hp.out, HR.out, Hb0.out⟩
  case round =>
    obtain ⟨k, hk, rfl, hdone, hp, hR, hbr⟩ := hrel
    have Hdone := Lib.hid hdone
    clear hdone
    obtain ⟨wo, rfl⟩ : ∃ wo : World, wo = wr := ⟨_, rfl⟩
    by_cases hlt : k < 2
    · obtain ⟨l, hle⟩ : ∃ l, N.pins c (k : Int) = l := ⟨_, rfl⟩
      have hl8 := N.pins_len c (k : Int)
      rw [hle] at hl8
      have Hle := Lib.hid hle
      clear hle
      have hzw := hbr.size
      go_wp2_with (first
        | ((with_reducible refine wp_load_box rfl _ rfl ?_); refine ⟨_, _, rfl, (by assumption), ?_⟩)
        | fail)
      refine (pins_val c (k : Int) l _ Hc.out (HT.out _ hbr) Hle.out).mono ?_
      rintro e w1 ⟨v, rfl, hown, hb⟩
      have hb1 := below_next hbr hb
      replace hp := hp.below hb
      replace hR := hR.below hb
      clear hb hbr
      by_cases hl : 0 < l.length
      · obtain ⟨b, cap, rfl, hbb, hbs, hnc, hcm, hcells⟩ := owns_open3 hown hl
        have Hcells := Lib.hid hcells
        clear hcells hown
        unfold maxLen at hcm
        have HP := Lib.hid hp
        have HR1 := Lib.hid hR
        have HB1 := Lib.hid hb1
        have hg1 := hR.lt
        have hz1 := hb1.size
        clear hp hR hb1
        go_wp2
        go_loopw [17] (fun i wy => ∃ n : Nat, n ≤ l.length ∧ i = .int .i64 (n : Int) ∧ N.noneTo l s n ∧ Below w1.heap.size w1 wy) (fun i _ => l.length - (intOf i).toNat)
        case atStart => exact ⟨0, by omega, rfl, fun x hx => by simp at hx, Below.refl _ _⟩
        case round =>
          obtain ⟨n, hn, rfl, hno, hbn⟩ := hrel
          have Hno := Lib.hid hno
          clear hno
          by_cases hltn : n < l.length
          · obtain ⟨x, hx⟩ : ∃ x, l[n]? = some x := ⟨_, List.getElem?_eq_getElem hltn⟩
            have hrng := Lib.hid (pin_range (b := b) (fun j u hu => ((hbn.cell (p := ⟨b, j, none⟩) hbs).trans (Hcells.out j u hu))) n x hx)
            have Hx := Lib.hid hx
            clear hx
            have hzn := hbn.size
            cases hs : (x.1 == s)
            · go_wp2_with (first
                | ((with_reducible refine wp_load_elem rfl _ _ rfl Tryz.underlying111 rfl ?_); refine ⟨_, _, _, rfl, hrng.out, Tryz.size_pin, ?_⟩))
              exact ⟨⟨n + 1, by omega, by go_num, N.noneTo_succ Hno.out Hx.out hs, hbn.alloc hbn.size _⟩, by simp [intOf]; omega⟩
            · have Hon := Lib.hid (N.on_some Hdone.out hlt (by rw [Hle.out]; exact N.at_some Hno.out Hx.out hs))
              have hR2 := (HR1.out.below hbn)
              go_wp2_with (first
                | ((with_reducible refine wp_load_elem rfl _ _ rfl Tryz.underlying111 rfl ?_); refine ⟨_, _, _, rfl, hrng.out, Tryz.size_pin, ?_⟩)
                | ((with_reducible refine wp_store_row' rfl _ _ _ rfl ?_); refine ⟨w.heap.size + 1, 111, (N.pinV x).toArray, rfl, rfl, ⟨_, (hR2.alloc _).heap, rfl⟩, Tryz.size_pin, N.pinV_one x, ?_⟩; intro V hV hRV))
              refine bodyPost_ret (v := N.onV (some x)) (results_cell_tmp Tryz.results85 _ _ (w.heap.size + 1) 111 _ _ _ rfl rfl hRV Tryz.underlying111 rfl Tryz.size_pin) rfl ⟨by rw [Hon.out], hV.below (((HB1.out.trans (hbn.mono hz1))).alloc (by omega) _) (by omega)⟩
          · obtain rfl : n = l.length := by omega
            go_wp2
            refine ⟨⟨k + 1, by omega, by go_num, fun j hj => ?_, HP.out.below hbn, HR1.out.below hbn, HB1.out.trans (hbn.mono hz1)⟩, by simp [intOf]; omega⟩
            by_cases e : j = k
            · rw [e, Hle.out]; exact N.at_none Hno.out
            · exact Hdone.out j (by omega)
      · have hz : l = [] := List.eq_nil_of_length_eq_zero (by omega)
        subst hz
        have HP := Lib.hid hp
        have HR1 := Lib.hid hR
        have HB1 := Lib.hid hb1
        clear hp hR hb1
        rcases hown.2 with ⟨rfl, _⟩ | ⟨g, cap, cur, rfl, _⟩
        all_goals
          clear hown
          go_wp2
          go_loopw [17] (fun i wy => i = .int .i64 0 ∧ wy = w1) (fun _ _ => 0)
          case atStart => exact ⟨rfl, rfl⟩
          case round =>
            obtain ⟨rfl, rfl⟩ := hrel
            go_wp2
            refine ⟨⟨k + 1, by omega, by go_num, fun j hj => ?_, HP.out, HR1.out, HB1.out⟩, by simp [intOf]; omega⟩
            by_cases e : j = k
            · rw [e, Hle.out]; rfl
            · exact Hdone.out j (by omega)
    · obtain rfl : k = 2 := by omega
      have Hon := Lib.hid (N.on_none Hdone.out)
      go_wp2_with (first
        | ((with_reducible refine wp_store_row' rfl _ _ _ rfl ?_); refine ⟨w.heap.size + 1, 111, (N.pinV N.no).toArray, rfl, rfl, ⟨_, hR.heap, rfl⟩, Tryz.size_pin, N.pinV_one _, ?_⟩; intro V hV hRV))
      refine bodyPost_ret (v := N.onV none) (results_cell_tmp Tryz.results85 _ _ (w.heap.size + 1) 111 _ _ _ rfl rfl hRV Tryz.underlying111 rfl Tryz.size_pin) rfl ⟨by rw [Hon.out], hV.below hbr (by omega)⟩
end Go.Proofs.YtgkndhpolcnjbaaGreatDoor
