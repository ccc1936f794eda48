/- The program's package pins: pins. -/
import Derived.Test.YtnkkhdcjbjiimaaDoorPinsAB
import Derived.Test.YtnkkhdcjbjiimaaDoorRow
namespace Go.Proofs.YtnkkhdcjbjiimaaDoor
open Go.RowKit Go.Sort

set_option maxRecDepth 100000 in
set_option maxHeartbeats 1000000 in
theorem pgoes_any (kind : Int) (d : Nat) (w : World) (hd : d < 8) :
    Calls Tryd.prog 75 #[.int .u8 kind, .int .i64 (d : Int)] w fun e w' => e = .returned (.bool (N.goes kind d)) ∧ w = w' := by
  have hm : (d : Int).tmod 2 = (d : Int) % 2 := Int.tmod_eq_emod_of_nonneg (by omega)
  have e0 : ((d : Int) % 2 == 0) = (d % 2 == 0) := by rw [Bool.eq_iff_iff]; simp; omega
  have e1 : ((d : Int) % 2 == 1) = (d % 2 == 1) := by rw [Bool.eq_iff_iff]; simp; omega
  have hg : N.goes kind d = (kind == 5 || (d % 2 == 0 && kind == 4 || d % 2 == 1 && kind == 3)) := rfl
  cases h5 : (kind == 5) <;> cases h4 : (kind == 4) <;> cases h3 : (kind == 3) <;> cases g0 : (d % 2 == 0) <;> cases g1 : (d % 2 == 1)
  all_goals
    rw [g0] at e0
    rw [g1] at e1
    rw [h5, h4, h3, g0, g1] at hg
    have Hg := Lib.hid hg
    clear hg g0 g1
    go_enter Tryd.func75, Tryd.ntmps75
    go_wp2
    go_ret
    exact ⟨ret_bool (by rw [Hg.out]; rfl), rfl⟩

theorem pgoes_eq (kind : Int) (d : Nat) (b : Bool) (w : World) (hd : d < 8) (h : N.goes kind d = b) :
    Calls Tryd.prog 75 #[.int .u8 kind, .int .i64 (d : Int)] w fun e w' => e = .returned (.bool b) ∧ w = w' := by
  rw [← h]; exact pgoes_any kind d w hd

namespace N
def pinV (x : Int × Int × BitVec 64) : List Value := [.int .i64 x.1, .int .i64 x.2.1, .int .u64 (U x.2.2)]
def cells (l : List (Int × Int × BitVec 64)) : List Value := l.flatMap pinV
theorem cells_len (l : List (Int × Int × BitVec 64)) : (cells l).length = l.length * 3 := by
  unfold cells
  induction l with
  | nil => rfl
  | cons a l ih => rw [List.flatMap_cons, List.length_append, ih]; simp [pinV]; omega
theorem cells_snoc (l : List (Int × Int × BitVec 64)) (x : Int × Int × BitVec 64) : cells (l ++ [x]) = cells l ++ pinV x := by simp [cells]
theorem cells_at (l : List (Int × Int × BitVec 64)) (i : Nat) (x : Int × Int × BitVec 64) (h : l[i]? = some x) (j : Nat) (v : Value) (hv : (pinV x)[j]? = some v) : (cells l)[i * 3 + j]? = some v := by
  induction l generalizing i with
  | nil => cases h
  | cons a l ih =>
    unfold cells
    rw [List.flatMap_cons]
    cases i with
    | zero =>
      simp at h
      subst h
      have : j < (pinV a).length := (List.getElem?_eq_some_iff.1 hv).1
      rw [List.getElem?_append_left (by omega), Nat.zero_mul, Nat.zero_add, hv]
    | succ i =>
      rw [List.getElem?_append_right (by simp [pinV]; omega), show (i + 1) * 3 + j - (pinV a).length = i * 3 + j by simp [pinV]; omega]
      exact ih i (by simpa using h)
def upTo (c : Nat → Int) (color k : Int) (n : Nat) : List (Int × Int × BitVec 64) := (List.range n).filterMap (res c color k)
theorem upTo_succ (c : Nat → Int) (color k : Int) (n : Nat) : upTo c color k (n + 1) = upTo c color k n ++ (match res c color k n with | some x => [x] | none => []) := by
  unfold upTo
  rw [List.range_succ, List.filterMap_append]
  congr 1
  cases h : res c color k n <;> simp [h]
theorem upTo_len (c : Nat → Int) (color k : Int) (n : Nat) : (upTo c color k n).length ≤ n := by
  have := List.length_filterMap_le (res c color k) (List.range n)
  simpa [upTo] using this
/-- A color's pins. -/
def pins (c : Nat → Int) (color : Int) : List (Int × Int × BitVec 64) := if color ≤ 1 ∧ 0 ≤ S.find c color 6 then upTo c color (S.find c color 6) 8 else []
def End (T : TypeId) (l : List (Int × Int × BitVec 64)) (w : World) (e : Ending) (w' : World) : Prop := ∃ v, e = .returned v ∧ w'.ownsRow (w.heap.size + 1) T 3 v l.length (cells l) ∧ Below w.heap.size w w'
end N

theorem ne_f {a : Int} (h : (a != 0) = false) : (a == 0) = true := by simpa using h
theorem ne_t {a : Int} (h : (a != 0) = true) : (a == 0) = false := by simpa using h
theorem eq_f {a : Int} (h : (a == 0) = false) : (a != 0) = true := by simpa using h
theorem eq_t {a : Int} (h : (a == 0) = true) : (a != 0) = false := by simpa using h
theorem Tryd.info_pin : (Tryd.prog.info? 84).map (fun i => (i.zero, i.size, i.bytes)) = some (some (.agg #[.int .i64 0, .int .i64 0, .int .u64 0]), 3, 24) := by kernel_rfl
theorem pins_new (w : World) (a b : Int) (v : BitVec 64) (T : TypeId) : ∀ (j : Nat) (u : Value), [Value.int .i64 a, .int .i64 b, .int .u64 (U v)][j]? = some u → (w.alloc (.cells #[.int .i64 a, .int .i64 b, .int .u64 (U v)] T)).cell? ((⟨w.heap.size, 0, none⟩ : Addr).add j) = some u := by
  intro j u h
  have : ((⟨w.heap.size, 0, none⟩ : Addr).add j) = ⟨w.heap.size, j, none⟩ := by unfold Addr.add; split <;> simp_all
  rw [this, World.cell?_alloc_at _ _ _ _ rfl]
  match j, h with
  | 0, h | 1, h | 2, h => simpa using h
theorem posAt_grown {w w' : World} {g : Nat} {c : Nat → Int} {row : Option Nat} (h : PosAt w g c) (hg : w.grownBy w' row) (hr : ∀ k, row = some k → k ≠ g) : PosAt w' g c :=
  ⟨(hg.block g h.lt (fun e => hr g e.symm rfl)).trans h.heap⟩

set_option maxRecDepth 100000 in
set_option maxHeartbeats 4000000 in
theorem pins_any (c : Nat → Int) (color : Int) (w : World) (hc : BdOk c) (hT : Tb w) :
    Calls Tryd.prog 47 #[.agg (posC c), .int .u8 color] w (N.End 84 (N.pins c color) w) := by
  have Hc := Lib.hid hc
  have HT := Lib.hid (fun W (hb : Below w.heap.size w W) => tb_below hT hb)
  clear hT
  have hb0 : Below w.heap.size w (w.alloc (.cells (posC c) 31)) := (Below.refl _ _).alloc (Nat.le_refl _) _
  have hp := PosAt.new w c
  by_cases h1 : color ≤ 1
  · rcases D.find_bd c color 6 with hf | ⟨k, hk, hf⟩
    · rw [← find_eq c color hc] at hf
      have Hn := Lib.hid (show N.pins c color = [] by unfold N.pins; rw [hf, if_neg (by simp)])
      have Hf := Lib.hid hf
      clear hf hc
      go_enter Tryd.func47, Tryd.ntmps47
      go_wp2
      go_step3
      go_wp2_with (first
        | ((with_reducible refine wp_load_box rfl _ rfl ?_); refine ⟨_, _, rfl, (by assumption), ?_⟩)
        | (go_at_call 38; refine (find_any c _ _ _ Hc.out (HT.out _ hb0)).mono ?_; rw [Hf.out]; rintro e u ⟨rfl, hb⟩; replace hp := hp.below hb; replace hb0 := below_next hb0 hb; clear hb))
      rw [Exit.noGoto_ret]
      go_ret
      rw [Hn.out]
      exact ⟨_, rfl, World.ownsRow_nil _ _ _ _, hb0⟩
    · rw [← find_eq c color hc] at hf
      have Hn := Lib.hid (show N.pins c color = N.upTo c color (k : Int) 8 by unfold N.pins; rw [hf, if_pos ⟨h1, by omega⟩])
      have Hf := Lib.hid hf
      clear hf hc
      go_enter Tryd.func47, Tryd.ntmps47
      go_wp2
      go_step3
      go_wp2_with (first
        | ((with_reducible refine wp_load_box rfl _ rfl ?_); refine ⟨_, _, rfl, (by assumption), ?_⟩)
        | (go_at_call 38; refine (find_any c _ _ _ Hc.out (HT.out _ hb0)).mono ?_; rw [Hf.out]; rintro e u ⟨rfl, hb⟩; replace hp := hp.below hb; replace hb0 := below_next hb0 hb; clear hb))
      refine region_below (by kernel_rfl) (by kernel_rfl) ?_
      repeat (first
        | go_big_quiet_step (first
          | (go_at_call 51; exact quiet_below (all_any c _ Hc.out))
          | (go_at_call 62; exact quiet_below (of_any c _ _ _ Hc.out)))
        | (go_big_quiet_want; refine quiet_load_box _ rfl ⟨_, _, rfl, hp, ?_⟩; simp only [Act.put, List.setIfInBounds_toArray, List.set_cons_succ, List.set_cons_zero]; go_big_quiet_on))
      refine wpQuiet_nil ?_
      intro w3 hb3
      replace hp := hp.below hb3
      replace hb0 := below_next hb0 hb3
      clear hb3
      go_wp2
      go_step3
      go_wp2
      have hp0 := Lib.hid hp
      have hbb := Lib.hid hb0
      clear hp hb0
      obtain ⟨i0, hi, hz0, hz1, hz2⟩ := info_parts Tryd.info_pin
      go_loopw [8, 26] (fun v i wr => ∃ n : Nat, n ≤ 8 ∧ i = .int .i64 (n : Int) ∧ wr.ownsRow (w.heap.size + 1) 84 3 v (N.upTo c color k n).length (N.cells (N.upTo c color k n)) ∧ PosAt wr w.heap.size c ∧ Below w.heap.size w wr) (fun _ i _ => 8 - (intOf i).toNat)
      case atStart => exact ⟨0, by omega, rfl, World.ownsRow_nil _ _ _ _, hp0.out, hbb.out⟩
      case round =>
        obtain ⟨n, hn, rfl, hown, hp, hbr⟩ := hrel
        by_cases hlt : n < 8
        · have hst := N.upTo_succ c color k n
          have hr : N.res c color k n = if N.pinB c color k n = true then some (B.first (N.fst c k n), B.first (N.byS c k n), N.lin c k n) else none := rfl
          have hpb : N.pinB c color k n = (U (bAnd (N.fst c k n) (S.of c color 0)) != 0 && (U (N.byS c k n) != 0 && (U (bAnd (N.byS c k n) (S.of c color 0)) == 0 && N.goes (P.kind (c (1 + (B.first (N.byS c k n)).toNat))) n))) := rfl
          cases p1 : (U (bAnd (N.fst c k n) (S.of c color 0)) != 0)
          · have e1 : (U (bAnd (bAnd (L.dir k n (S.all c)) (S.all c)) (S.of c color 0)) == 0) = true := ne_f p1
            rw [p1] at hpb
            rw [hpb, if_neg (by simp)] at hr
            rw [hr, List.append_nil] at hst
            have Hst := Lib.hid hst
            clear hst hr hpb p1
            go_wp2_with (first
            | (go_at_call 74; refine (dir_any _ n _ _ hlt (HT.out _ hbr)).mono ?_; rintro e u ⟨rfl, hb⟩; replace hp := hp.below hb; replace hown := owns_below hown hb; replace hbr := below_next hbr hb; clear hb))
            exact ⟨⟨n + 1, by omega, by go_num, by rw [Hst.out]; exact hown, hp, hbr⟩, by simp [intOf]; omega⟩
          · have e1 : (U (bAnd (bAnd (L.dir k n (S.all c)) (S.all c)) (S.of c color 0)) == 0) = false := ne_t p1
            cases p2 : (U (N.byS c k n) != 0)
            · have e2 : (U (bAndn (bAnd (L.dir k n (bAndn (S.all c) (bAnd (L.dir k n (S.all c)) (S.all c)))) (S.all c)) (bAnd (L.dir k n (S.all c)) (S.all c))) == 0) = true := ne_f p2
              rw [p1, p2] at hpb
              rw [hpb, if_neg (by simp)] at hr
              rw [hr, List.append_nil] at hst
              have Hst := Lib.hid hst
              clear hst hr hpb p1 p2
              go_wp2_with (first
            | (go_at_call 74; refine (dir_any _ n _ _ hlt (HT.out _ hbr)).mono ?_; rintro e u ⟨rfl, hb⟩; replace hp := hp.below hb; replace hown := owns_below hown hb; replace hbr := below_next hbr hb; clear hb))
              exact ⟨⟨n + 1, by omega, by go_num, by rw [Hst.out]; exact hown, hp, hbr⟩, by simp [intOf]; omega⟩
            · have e2 : (U (bAndn (bAnd (L.dir k n (bAndn (S.all c) (bAnd (L.dir k n (S.all c)) (S.all c)))) (S.all c)) (bAnd (L.dir k n (S.all c)) (S.all c))) == 0) = false := ne_t p2
              cases p3 : (U (bAnd (N.byS c k n) (S.of c color 0)) == 0)
              · have e3 : (U (bAnd (bAndn (bAnd (L.dir k n (bAndn (S.all c) (bAnd (L.dir k n (S.all c)) (S.all c)))) (S.all c)) (bAnd (L.dir k n (S.all c)) (S.all c))) (S.of c color 0)) != 0) = true := eq_f p3
                rw [p1, p2, p3] at hpb
                rw [hpb, if_neg (by simp)] at hr
                rw [hr, List.append_nil] at hst
                have Hst := Lib.hid hst
                clear hst hr hpb p1 p2 p3
                go_wp2_with (first
            | (go_at_call 74; refine (dir_any _ n _ _ hlt (HT.out _ hbr)).mono ?_; rintro e u ⟨rfl, hb⟩; replace hp := hp.below hb; replace hown := owns_below hown hb; replace hbr := below_next hbr hb; clear hb))
                exact ⟨⟨n + 1, by omega, by go_num, by rw [Hst.out]; exact hown, hp, hbr⟩, by simp [intOf]; omega⟩
              · have e3 : (U (bAnd (bAndn (bAnd (L.dir k n (bAndn (S.all c) (bAnd (L.dir k n (S.all c)) (S.all c)))) (S.all c)) (bAnd (L.dir k n (S.all c)) (S.all c))) (S.of c color 0)) != 0) = false := eq_t p3
                have hne : N.byS c k n ≠ 0#64 := by rw [U_ne] at p2; simpa using p2
                obtain ⟨sn, hfs, hsn, _, _⟩ := first_spec _ hne
                obtain ⟨x0, x1⟩ := Hc.out sn hsn
                rw [hfs, Int.toNat_natCast] at hpb
                have es : B.first (bAndn (bAnd (L.dir k n (bAndn (S.all c) (bAnd (L.dir k n (S.all c)) (S.all c)))) (S.all c)) (bAnd (L.dir k n (S.all c)) (S.all c))) = (sn : Int) := hfs
                cases p4 : N.goes (P.kind (c (1 + sn))) n
                · rw [p1, p2, p3, p4] at hpb
                  rw [hpb, if_neg (by simp)] at hr
                  rw [hr, List.append_nil] at hst
                  have Hst := Lib.hid hst
                  clear hst hr hpb p1 p2 p3 hne hfs
                  go_wp2_with (first
            | (go_at_call 74; refine (dir_any _ n _ _ hlt (HT.out _ hbr)).mono ?_; rintro e u ⟨rfl, hb⟩; replace hp := hp.below hb; replace hown := owns_below hown hb; replace hbr := below_next hbr hb; clear hb)
              | (go_at_call 54; refine (first_any _ _ (HT.out _ hbr)).mono ?_; rintro e w' ⟨rfl, rfl⟩; have hcl := hp.bd hsn)
              | (go_at_call 55; refine (kind_any _ _ x0 x1).mono ?_; rintro e w' ⟨rfl, rfl⟩)
              | (go_at_call 75; refine (pgoes_eq _ n _ _ hlt p4).mono ?_; rintro e w' ⟨rfl, rfl⟩))
                  exact ⟨⟨n + 1, by omega, by go_num, by rw [Hst.out]; exact hown, hp, hbr⟩, by simp [intOf]; omega⟩
                · rw [p1, p2, p3, p4] at hpb
                  rw [hpb, if_pos (by simp), hfs] at hr
                  rw [hr] at hst
                  have hlen := N.upTo_len c color k n
                  have Hst := Lib.hid hst
                  clear hst hr hpb p1 p2 p3 hne hfs
                  go_wp2_with (first
            | (go_at_call 74; refine (dir_any _ n _ _ hlt (HT.out _ hbr)).mono ?_; rintro e u ⟨rfl, hb⟩; replace hp := hp.below hb; replace hown := owns_below hown hb; replace hbr := below_next hbr hb; clear hb)
              | (go_at_call 54; refine (first_any _ _ (HT.out _ hbr)).mono ?_; rintro e w' ⟨rfl, rfl⟩; have hcl := hp.bd hsn)
              | (go_at_call 55; refine (kind_any _ _ x0 x1).mono ?_; rintro e w' ⟨rfl, rfl⟩)
              | (go_at_call 75; refine (pgoes_eq _ n _ _ hlt p4).mono ?_; rintro e w' ⟨rfl, rfl⟩)
              | (at_builtin; refine wpList_append_own _ rfl _ _ 81 rfl (w.heap.size + 1) 84 i0 (.agg #[.int .i64 0, .int .i64 0, .int .u64 0]) 3 24 Tryd.underlying81 hi hz0 hz1 hz2 rfl (by decide) _ _ _ rfl (hown.alloc _) ⟨_, 0, none⟩ 1 1 [.int .i64 (B.first (N.fst c k n)), .int .i64 (sn : Int), .int .u64 (U (N.lin c k n))] rfl rfl (pins_new _ _ _ _ _) (by intro q hq; simp at hq; rcases hq with rfl | rfl | rfl <;> rfl) (by unfold maxLen; omega) (by omega) (by have := hp.lt; simp; omega) ?_; intro v' w1 hown' hgrow _))
                  refine ⟨⟨n + 1, by omega, by go_num, ?_, ?_, ?_⟩, by simp [intOf]; omega⟩
                  · rw [Hst.out, N.cells_snoc, List.length_append]; exact hown'
                  · exact (hp.alloc _).grown hgrow (fun q hq => by have := (hown.lt q hq).1; omega)
                  · exact (hbr.alloc hbr.size _).grown hgrow (by have := hbr.size; simp; omega) (fun q hq => by have := (hown.lt q hq).1; omega)
        · obtain rfl : n = 8 := by omega
          go_wp2
          rw [Exit.noGoto_ret]
          go_ret
          rw [Hn.out]
          exact ⟨_, rfl, hown, hbr⟩
  · have Hn := Lib.hid (show N.pins c color = [] by unfold N.pins; rw [if_neg (fun h => h1 h.1)])
    go_enter Tryd.func47, Tryd.ntmps47
    go_wp2
    go_step3
    go_wp2
    rw [Exit.noGoto_ret]
    go_ret
    rw [Hn.out]
    exact ⟨_, rfl, World.ownsRow_nil _ _ _ _, hb0⟩

end Go.Proofs.YtnkkhdcjbjiimaaDoor
