/- The laws of layer 14: both. -/
import Derived.Test.YtnkkhdcjbjiimaaDoorCastX
namespace Go.Proofs.YtnkkhdcjbjiimaaDoor
open Go.RowKit Go.Sort

/-- A row of structs that is owned and not empty. -/
theorem owns_openN {w : World} {base size : Nat} {e : TypeId} {v : Value} {n : Nat} {xs : List Value} (h : w.ownsRow base e size v n xs) (hn : 0 < n) :
    ∃ b cap, v = .slice (some ⟨b, 0, none⟩) n cap ∧ base ≤ b ∧ b < w.heap.size ∧ n ≤ cap ∧ cap ≤ maxLen ∧ ∀ j u, xs[j]? = some u → w.cell? ⟨b, j, none⟩ = some u := by
  rcases h.2 with ⟨_, rfl⟩ | ⟨g, cap, cur, rfl, hb, hg, hnc, hcm, hcs, htake⟩
  · omega
  · refine ⟨g, cap, rfl, hb, (Array.getElem?_eq_some_iff.1 hg).1, hnc, hcm, ?_⟩
    intro j u hu
    rw [← htake, List.getElem?_take] at hu
    split at hu
    · simp only [World.cell?, hg]
      simpa using hu
    · cases hu
/-- A whole castling stands at its place. -/
def T.MovAt (w : World) (b off : Nat) (x : Nat × Nat) : Prop := w.rangeAt b off [.int .i8 (x.1 : Int), .int .i8 (x.2 : Int), .int .u8 0, .int .u8 0, .bool true]
theorem T.cells_at (l : List (Nat × Nat)) (i : Nat) (x : Nat × Nat) (h : l[i]? = some x) (j : Nat) (v : Value) (hv : (movL x)[j]? = some v) : (cells l)[i * 5 + j]? = some v := by
  induction l generalizing i with
  | nil => cases h
  | cons a l ih =>
    unfold cells
    rw [List.flatMap_cons]
    cases i with
    | zero =>
      simp at h
      subst h
      have : j < (movL a).length := (List.getElem?_eq_some_iff.1 hv).1
      rw [List.getElem?_append_left (by omega), Nat.zero_mul, Nat.zero_add, hv]
    | succ i =>
      rw [List.getElem?_append_right (by simp [movL]; omega), show (i + 1) * 5 + j - (movL a).length = i * 5 + j by simp [movL]; omega]
      exact ih i (by simpa using h)
theorem T.movAt {w : World} {b : Nat} {l : List (Nat × Nat)} (h : ∀ j u, (cells l)[j]? = some u → w.cell? ⟨b, j, none⟩ = some u) (i : Nat) (x : Nat × Nat) (hx : l[i]? = some x) : MovAt w b (i * 5) x := fun j v hv => h _ _ (cells_at l i x hx j v hv)
theorem T.MovAt.below {w w' : World} {b off : Nat} {x : Nat × Nat} (h : MovAt w b off x) (hb : Below w.heap.size w w') : MovAt w' b off x := fun j v hv => by
  have := h j v hv
  exact (hb.cell (p := ⟨b, off + j, none⟩) (World.block_lt_of_cell? w _ this)).trans this

theorem T.MovAt.five {w : World} {b off : Nat} {x : Nat × Nat} (h : MovAt w b off x) : w.cell? ⟨b, off, none⟩ = some (.int .i8 (x.1 : Int)) ∧ w.cell? ⟨b, off + 1, none⟩ = some (.int .i8 (x.2 : Int)) ∧ w.cell? ⟨b, off + 2, none⟩ = some (.int .u8 0) ∧ w.cell? ⟨b, off + 3, none⟩ = some (.int .u8 0) ∧ w.cell? ⟨b, off + 4, none⟩ = some (.bool true) :=
  ⟨h 0 _ rfl, h 1 _ rfl, h 2 _ rfl, h 3 _ rfl, h 4 _ rfl⟩

/-- What 'both' tells of a list. -/
def T.bothB (L : List (Nat × Nat)) (a h : Bool) : Bool := (L.any (· == (4, 0)) == a) && ((L.any (· == (4, 7)) == h) && (L.length == a.toNat + h.toNat))
theorem T.any_succ (L : List (Nat × Nat)) (n : Nat) (m : Nat × Nat) (p : Nat × Nat → Bool) (h : L[n]? = some m) : (L.take (n + 1)).any p = ((L.take n).any p || p m) := by
  rw [List.take_add_one, h, List.any_append]
  simp

set_option maxRecDepth 100000 in
set_option maxHeartbeats 2000000 in
theorem both14_any (c : Nat → Int) (a h : Bool) (L : List (Nat × Nat)) (w : World) (hc : PosOk c) (hT : Tb w) (hL : T.clist c = L) (hL2 : L.length ≤ 2) :
    Calls Tryd.prog 21 #[.agg (posC c), .bool a, .bool h] w fun e w' => e = .returned (.bool (T.bothB L a h)) ∧ Below w.heap.size w w' := by
  have hb0 : Below w.heap.size w (w.alloc (.cells (posC c) 31)) := (Below.refl _ _).alloc (Nat.le_refl _) _
  have hp := PosAt.new w c
  have HT := Lib.hid (fun W (hb : Below w.heap.size w W) => tb_below hT hb)
  have HL := Lib.hid (fun W (hT : Tb W) => clist_val c L W hc hT hL)
  clear hT hc hL
  go_enter Tryd.func21, Tryd.ntmps21
  go_wp2_with (first
    | ((with_reducible refine wp_load_box rfl _ rfl ?_); refine ⟨_, _, rfl, (by first | assumption | exact hp.alloc _), ?_⟩)
    | fail)
  refine (HL.out _ (HT.out _ hb0)).mono ?_
  rintro e u ⟨v, rfl, hown, hb⟩
  have hB0 := Lib.hid (below_next hb0 hb)
  clear hb hb0 hp
  have HR := Lib.hid (fun (x y z : Bool) (hx : L.any (· == (4, 0)) = x) (hy : L.any (· == (4, 7)) = y) (hz : (L.length == a.toNat + h.toNat) = z) => (show T.bothB L a h = ((x == a) && ((y == h) && z)) by unfold T.bothB; rw [hx, hy, hz]))
  by_cases hl : 0 < L.length
  · obtain ⟨b, cap, rfl, hbb, hbs, hnc, hcm, hcells⟩ := owns_openN hown hl
    have Hm := Lib.hid (fun W (hb : Below u.heap.size u W) i x (hx : L[i]? = some x) => (T.movAt hcells i x hx).below hb)
    clear hown hcells hbb
    unfold maxLen at hcm
    go_wp2
    go_loopw [8, 9, 10] (fun x y i wr => ∃ n : Nat, n ≤ L.length ∧ i = .int .i64 (n : Int) ∧ x = .bool ((L.take n).any (· == (4, 0))) ∧ y = .bool ((L.take n).any (· == (4, 7))) ∧ Below u.heap.size u wr) (fun _ _ i _ => L.length - (intOf i).toNat)
    case atStart => exact ⟨0, by omega, rfl, rfl, rfl, Below.refl _ _⟩
    case round =>
      obtain ⟨n, hn, rfl, rfl, rfl, hbr⟩ := hrel
      by_cases hlt : n < L.length
      · obtain ⟨⟨k, s⟩, hm⟩ : ∃ m, L[n]? = some m := ⟨_, List.getElem?_eq_getElem hlt⟩
        obtain ⟨m0, m1, m2, m3, m4⟩ := (Hm.out wr hbr n (k, s) hm).five
        have hs1 := T.any_succ L n (k, s) (· == (4, 0)) hm
        have hs2 := T.any_succ L n (k, s) (· == (4, 7)) hm
        simp only at m0 m1
        generalize (L.take n).any (· == (4, 0)) = bx at hs1 ⊢
        generalize (L.take n).any (· == (4, 7)) = by' at hs2 ⊢
        have Hs := Lib.hid (And.intro hs1 hs2)
        clear hs1 hs2 hm
        by_cases hk : k = 4
        · subst hk
          by_cases h0 : s = 0
          · subst h0
            cases bx <;> cases by'
            all_goals
              go_wp2
              exact ⟨⟨n + 1, by omega, by go_num, by rw [Hs.out.1]; rfl, by rw [Hs.out.2]; rfl, hbr⟩, by simp [intOf]; omega⟩
          · by_cases h7 : s = 7
            · subst h7
              cases bx <;> cases by'
              all_goals
                go_wp2
                exact ⟨⟨n + 1, by omega, by go_num, by rw [Hs.out.1]; rfl, by rw [Hs.out.2]; rfl, hbr⟩, by simp [intOf]; omega⟩
            · have e0 : ((s : Int) == 0) = false := by simp; omega
              have e7 : ((s : Int) == 7) = false := by simp; omega
              have f0 : (((4, s) : Nat × Nat) == (4, 0)) = false := by simp; omega
              have f7 : (((4, s) : Nat × Nat) == (4, 7)) = false := by simp; omega
              have F := Lib.hid (And.intro f0 f7)
              clear f0 f7
              cases bx <;> cases by'
              all_goals
                go_wp2
                exact ⟨⟨n + 1, by omega, by go_num, by rw [Hs.out.1, F.out.1]; rfl, by rw [Hs.out.2, F.out.2]; rfl, hbr⟩, by simp [intOf]; omega⟩
        · have e4 : ((k : Int) == 4) = false := by simp; omega
          have f0 : (((k, s) : Nat × Nat) == (4, 0)) = false := by simp; omega
          have f7 : (((k, s) : Nat × Nat) == (4, 7)) = false := by simp; omega
          have F := Lib.hid (And.intro f0 f7)
          clear f0 f7 hk
          cases bx <;> cases by'
          all_goals
            go_wp2
            exact ⟨⟨n + 1, by omega, by go_num, by rw [Hs.out.1, F.out.1]; rfl, by rw [Hs.out.2, F.out.2]; rfl, hbr⟩, by simp [intOf]; omega⟩
      · obtain rfl : n = L.length := by omega
        rw [List.take_length]
        obtain ⟨x, hx⟩ : ∃ x, L.any (· == (4, 0)) = x := ⟨_, rfl⟩
        obtain ⟨y, hy⟩ : ∃ y, L.any (· == (4, 7)) = y := ⟨_, rfl⟩
        rw [hx, hy]
        have HX := Lib.hid (And.intro hx hy)
        clear hx hy
        generalize hLn : L.length = q at *
        have hq : q = 1 ∨ q = 2 := by omega
        rcases hq with rfl | rfl <;> cases a <;> cases h <;> cases x <;> cases y
        all_goals
          go_wp2
          go_ret
          exact ⟨ret_bool (by rw [HR.out _ _ _ HX.out.1 HX.out.2 rfl]; rfl), below_next hB0.out hbr⟩
  · have hL0 : L = [] := by cases L with | nil => rfl | cons x l => simp at hl
    subst hL0
    obtain ⟨ao, cap, rfl⟩ : ∃ ao cap, v = .slice ao 0 cap := by
      rcases hown.2 with ⟨e, _⟩ | ⟨g, cap, cur, e, _⟩
      · exact ⟨_, _, e⟩
      · exact ⟨_, _, e⟩
    clear hown hl hL2
    go_wp2
    go_loopw [8, 9, 10] (fun x y i wr => i = .int .i64 0 ∧ x = .bool false ∧ y = .bool false ∧ Below u.heap.size u wr) (fun _ _ _ _ => 0)
    case atStart => exact ⟨rfl, rfl, rfl, Below.refl _ _⟩
    case round =>
      obtain ⟨rfl, rfl, rfl, hbr⟩ := hrel
      cases a <;> cases h
      all_goals
        go_wp2
        go_ret
        exact ⟨ret_bool (by rw [HR.out _ _ _ rfl rfl rfl]; rfl), below_next hB0.out hbr⟩

end Go.Proofs.YtnkkhdcjbjiimaaDoor
