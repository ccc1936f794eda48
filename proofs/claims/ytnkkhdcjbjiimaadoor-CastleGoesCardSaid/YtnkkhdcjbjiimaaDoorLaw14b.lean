/- The law CastleGoes. -/
import Derived.Test.YtnkkhdcjbjiimaaDoorCastZ
import Derived.Test.YtnkkhdcjbjiimaaDoorCastQ
import Derived.Test.YtnkkhdcjbjiimaaDoorLaw14a
namespace Go.Proofs.YtnkkhdcjbjiimaaDoor
open Go.RowKit Go.Sort
attribute [local go_sem] Oper.semAt_some

set_option maxRecDepth 100000 in
set_option maxHeartbeats 2000000 in
theorem castleGoes_walk (c : Nat → Int) (w : World) (hc : PosOk c) (hT : Tb w) :
    Calls Tryd.prog 7 #[.agg (posC c)] w fun e w' => e = .returned (.bool true) ∧ Below w.heap.size w w' := by
  obtain ⟨L, hL⟩ : ∃ L, T.clist c = L := ⟨_, rfl⟩
  have hL2 : L.length ≤ 2 := by rw [← hL]; exact T.clist_len c
  have hmem : ∀ x ∈ L, ∃ t d, T.Is c t d x.1 x.2 := fun x hx => T.clist_mem c x hc (by rw [hL]; exact hx)
  have hb0 : Below w.heap.size w (w.alloc (.cells (posC c) 31)) := (Below.refl _ _).alloc (Nat.le_refl _) _
  have hp := PosAt.new w c
  have HT := Lib.hid (fun W (hb : Below w.heap.size w W) => tb_below hT hb)
  have HL := Lib.hid (fun W (hT : Tb W) => clist_val c L W hc hT hL)
  have Hmem := Lib.hid hmem
  clear hT hL hmem
  go_enter Tryd.func7, Tryd.ntmps7
  go_wp2_with (first
    | ((with_reducible refine wp_load_box rfl _ rfl ?_); refine ⟨_, _, rfl, (by first | assumption | exact hp.alloc _), ?_⟩)
    | fail)
  refine (HL.out _ (HT.out _ hb0)).mono ?_
  rintro e u ⟨v, rfl, hown, hb⟩
  have hp1 := Lib.hid (hp.below hb)
  have hB0 := Lib.hid (below_next hb0 hb)
  have hlt0 := (hp.below hb).lt
  clear hb hb0 hp
  by_cases hl : 0 < L.length
  · obtain ⟨b, cap, rfl, hbb, hbs, hnc, hcm, hcells⟩ := owns_openN hown hl
    have Hm := Lib.hid (fun W (hb : Below u.heap.size u W) i x (hx : L[i]? = some x) => (T.movAt hcells i x hx).below hb)
    clear hown hcells hbb
    unfold maxLen at hcm
    go_wp2
    go_loopw [4] (fun i wr => ∃ n : Nat, n ≤ L.length ∧ i = .int .i64 (n : Int) ∧ PosAt wr w.heap.size c ∧ Below u.heap.size u wr ∧ Below w.heap.size w wr) (fun i _ => L.length - (intOf i).toNat)
    case atStart => exact ⟨0, by omega, rfl, hp1.out, Below.refl _ _, hB0.out⟩
    case round =>
      obtain ⟨n, hn, rfl, hp, hbu, hbr⟩ := hrel
      by_cases hlt : n < L.length
      · obtain ⟨⟨k, s⟩, hm⟩ : ∃ m, L[n]? = some m := ⟨_, List.getElem?_eq_getElem hlt⟩
        obtain ⟨m0, m1, m2, m3, m4⟩ := (Hm.out wr hbu n (k, s) hm).five
        simp only at m0 m1
        obtain ⟨t, d, his⟩ := Hmem.out (k, s) (List.mem_of_getElem? hm)
        simp only at his
        have ht2 := his.t2
        have hd2 := his.d2
        have hM := RowAt.new wr #[.int .i8 (k : Int), .int .i8 (s : Int), .int .u8 0, .int .u8 0, .bool true] 36
        rcases (show t = 0 ∨ t = 1 by omega) with rfl | rfl <;> rcases (show d = 0 ∨ d = 1 by omega) with rfl | rfl
        · have hk := his.khome
          have hs := his.shome
          have hne := his.ne
          have kd : (k : Int).tdiv 8 = 0 := by rw [Int.tdiv_eq_ediv_of_nonneg (by omega)]; omega
          have sd : (s : Int).tdiv 8 = 0 := by rw [Int.tdiv_eq_ediv_of_nonneg (by omega)]; omega
          obtain ⟨q, hq⟩ : ∃ q : Nat, (s : Int) - 56 * ((0 : Nat) : Int) = (q : Int) := ⟨s - 0, by omega⟩
          have hq8 : (q : Int) < 8 := by omega
          have sm : (s : Int).tmod 8 = (q : Int) := by rw [Int.tmod_eq_emod_of_nonneg (by omega)]; omega
          have Hc := Lib.hid (show c (1 + k) = 6 ∧ c (1 + s) = 4 ∧ c 78 = 0 ∧ c 79 = (q : Int) from ⟨his.king, his.rook, his.turn, (show c 79 = (s : Int) - 56 * ((0 : Nat) : Int) from his.right).trans hq⟩)
          have hk64 : k < 64 := by omega
          have hs64 : s < 64 := by omega
          have hkI : (k : Int) < 64 := by omega
          have hsI : (s : Int) < 64 := by omega
          have hdir : k < s := by exact his.dir.2 rfl
          have hdirI : (k : Int) < (s : Int) := by omega
          have hl1 : decide (s ≤ k) = false := by simp; omega
          have hl2 : decide (k ≤ s) = true := by simp; omega
          have HS := Lib.hid (fun W => cside_eq c (k : Int) (s : Int) 0 0 true 0 W hc (by omega) (by omega) (T.side_is his))
          have HG := Lib.hid (fun W => cgoals_eq c (k : Int) (s : Int) 0 0 true (.tuple #[.int .i64 6, .int .i64 5, .bool true]) W hc (by omega) (by omega) (by rw [T.side_is his]; unfold T.goalsV; rw [his.turn]; rfl))
          clear his hm hq hne
          go_wp2_with (first
            | ((with_reducible refine wp_load_box rfl _ rfl ?_); refine ⟨_, _, rfl, (by first | exact hp | exact hp.alloc _), ?_⟩)
            | ((with_reducible refine wp_load_row' rfl 36 _ rfl Tryd.underlying36 rfl ?_); refine ⟨_, _, _, rfl, hM, ?_, ?_⟩; exact Tryd.size_MoveS)
            | (go_at_call 23; refine (HG.out _).mono ?_; rintro e u1 ⟨rfl, hb⟩; replace hM := hM.below hb; replace hp := (hp.alloc _).below hb; replace hbr := below_next (hbr.alloc hbr.size _) hb; replace hbu := below_next (hbu.alloc hbu.size _) hb; clear hb)
            | (go_at_call 17; refine (HS.out _).mono ?_; rintro e u2 ⟨rfl, hb⟩; replace hM := hM.below hb; replace hp := hp.below hb; replace hbr := below_next hbr hb; replace hbu := below_next hbu hb; clear hb))
          have ck := hp.bd (s := k) hk64
          have cs := hp.bd (s := s) hs64
          have c78 := hp.cell (i := 78) (by decide)
          have cr := hp.cell (i := 79) (by decide)
          rw [Hc.out.1] at ck
          rw [Hc.out.2.1] at cs
          rw [Hc.out.2.2.1, show pk 78 = .u8 from rfl] at c78
          rw [Hc.out.2.2.2, show pk 79 = .i8 from rfl] at cr
          have mf := hM.cell 0
          have mt := hM.cell 1
          simp only [List.getElem?_toArray, List.getElem?_cons_zero, List.getElem?_cons_succ] at mf mt
          have hlp := hp.lt
          have hlm := hM.lt
          go_quiet (fail)
          clear ck cs c78 cr mf mt hlp hlm
          replace hp := hp.drewN nq
          replace hM := hM.drewN nq
          replace hbr := T.below_drewS hbr nq
          replace hbu := T.below_drewS hbu nq
          revert hp hM hbr hbu
          generalize u2.drewN nq = u3
          intro hp hM hbr hbu
          have ck := hp.bd (s := k) hk64
          have cs := hp.bd (s := s) hs64
          have c78 := hp.cell (i := 78) (by decide)
          have cr := hp.cell (i := 79) (by decide)
          rw [Hc.out.1] at ck
          rw [Hc.out.2.1] at cs
          rw [Hc.out.2.2.1, show pk 78 = .u8 from rfl] at c78
          rw [Hc.out.2.2.2, show pk 79 = .i8 from rfl] at cr
          have mf := hM.cell 0
          have mt := hM.cell 1
          simp only [List.getElem?_toArray, List.getElem?_cons_zero, List.getElem?_cons_succ] at mf mt
          have hlp := hp.lt
          have hlm := hM.lt
          go_wp2
          go_quiet (fail)
          go_wp2
          exact ⟨⟨n + 1, by omega, by go_num, hp.drewN nq, T.below_drewS hbu nq, T.below_drewS hbr nq⟩, by simp [intOf]; omega⟩
        · have hk := his.khome
          have hs := his.shome
          have hne := his.ne
          have kd : (k : Int).tdiv 8 = 0 := by rw [Int.tdiv_eq_ediv_of_nonneg (by omega)]; omega
          have sd : (s : Int).tdiv 8 = 0 := by rw [Int.tdiv_eq_ediv_of_nonneg (by omega)]; omega
          obtain ⟨q, hq⟩ : ∃ q : Nat, (s : Int) - 56 * ((0 : Nat) : Int) = (q : Int) := ⟨s - 0, by omega⟩
          have hq8 : (q : Int) < 8 := by omega
          have sm : (s : Int).tmod 8 = (q : Int) := by rw [Int.tmod_eq_emod_of_nonneg (by omega)]; omega
          have Hc := Lib.hid (show c (1 + k) = 6 ∧ c (1 + s) = 4 ∧ c 78 = 0 ∧ c 80 = (q : Int) from ⟨his.king, his.rook, his.turn, (show c 80 = (s : Int) - 56 * ((0 : Nat) : Int) from his.right).trans hq⟩)
          have hk64 : k < 64 := by omega
          have hs64 : s < 64 := by omega
          have hkI : (k : Int) < 64 := by omega
          have hsI : (s : Int) < 64 := by omega
          have hdir : s < k := by have hnn : ¬ k < s := fun e => absurd (his.dir.1 e) (by decide); omega
          have hdirI : (s : Int) < (k : Int) := by omega
          have hl1 : decide (s ≤ k) = true := by simp; omega
          have hl2 : decide (k ≤ s) = false := by simp; omega
          have HS := Lib.hid (fun W => cside_eq c (k : Int) (s : Int) 0 0 true 1 W hc (by omega) (by omega) (T.side_is his))
          have HG := Lib.hid (fun W => cgoals_eq c (k : Int) (s : Int) 0 0 true (.tuple #[.int .i64 2, .int .i64 3, .bool true]) W hc (by omega) (by omega) (by rw [T.side_is his]; unfold T.goalsV; rw [his.turn]; rfl))
          clear his hm hq hne
          go_wp2_with (first
            | ((with_reducible refine wp_load_box rfl _ rfl ?_); refine ⟨_, _, rfl, (by first | exact hp | exact hp.alloc _), ?_⟩)
            | ((with_reducible refine wp_load_row' rfl 36 _ rfl Tryd.underlying36 rfl ?_); refine ⟨_, _, _, rfl, hM, ?_, ?_⟩; exact Tryd.size_MoveS)
            | (go_at_call 23; refine (HG.out _).mono ?_; rintro e u1 ⟨rfl, hb⟩; replace hM := hM.below hb; replace hp := (hp.alloc _).below hb; replace hbr := below_next (hbr.alloc hbr.size _) hb; replace hbu := below_next (hbu.alloc hbu.size _) hb; clear hb)
            | (go_at_call 17; refine (HS.out _).mono ?_; rintro e u2 ⟨rfl, hb⟩; replace hM := hM.below hb; replace hp := hp.below hb; replace hbr := below_next hbr hb; replace hbu := below_next hbu hb; clear hb))
          have ck := hp.bd (s := k) hk64
          have cs := hp.bd (s := s) hs64
          have c78 := hp.cell (i := 78) (by decide)
          have cr := hp.cell (i := 80) (by decide)
          rw [Hc.out.1] at ck
          rw [Hc.out.2.1] at cs
          rw [Hc.out.2.2.1, show pk 78 = .u8 from rfl] at c78
          rw [Hc.out.2.2.2, show pk 80 = .i8 from rfl] at cr
          have mf := hM.cell 0
          have mt := hM.cell 1
          simp only [List.getElem?_toArray, List.getElem?_cons_zero, List.getElem?_cons_succ] at mf mt
          have hlp := hp.lt
          have hlm := hM.lt
          go_quiet (fail)
          clear ck cs c78 cr mf mt hlp hlm
          replace hp := hp.drewN nq
          replace hM := hM.drewN nq
          replace hbr := T.below_drewS hbr nq
          replace hbu := T.below_drewS hbu nq
          revert hp hM hbr hbu
          generalize u2.drewN nq = u3
          intro hp hM hbr hbu
          have ck := hp.bd (s := k) hk64
          have cs := hp.bd (s := s) hs64
          have c78 := hp.cell (i := 78) (by decide)
          have cr := hp.cell (i := 80) (by decide)
          rw [Hc.out.1] at ck
          rw [Hc.out.2.1] at cs
          rw [Hc.out.2.2.1, show pk 78 = .u8 from rfl] at c78
          rw [Hc.out.2.2.2, show pk 80 = .i8 from rfl] at cr
          have mf := hM.cell 0
          have mt := hM.cell 1
          simp only [List.getElem?_toArray, List.getElem?_cons_zero, List.getElem?_cons_succ] at mf mt
          have hlp := hp.lt
          have hlm := hM.lt
          go_wp2
          go_quiet (fail)
          go_wp2
          exact ⟨⟨n + 1, by omega, by go_num, hp.drewN nq, T.below_drewS hbu nq, T.below_drewS hbr nq⟩, by simp [intOf]; omega⟩
        · have hk := his.khome
          have hs := his.shome
          have hne := his.ne
          have kd : (k : Int).tdiv 8 = 7 := by rw [Int.tdiv_eq_ediv_of_nonneg (by omega)]; omega
          have sd : (s : Int).tdiv 8 = 7 := by rw [Int.tdiv_eq_ediv_of_nonneg (by omega)]; omega
          obtain ⟨q, hq⟩ : ∃ q : Nat, (s : Int) - 56 * ((1 : Nat) : Int) = (q : Int) := ⟨s - 56, by omega⟩
          have hq8 : (q : Int) < 8 := by omega
          have sm : (s : Int).tmod 8 = (q : Int) := by rw [Int.tmod_eq_emod_of_nonneg (by omega)]; omega
          have Hc := Lib.hid (show c (1 + k) = 14 ∧ c (1 + s) = 12 ∧ c 78 = 1 ∧ c 81 = (q : Int) from ⟨his.king, his.rook, his.turn, (show c 81 = (s : Int) - 56 * ((1 : Nat) : Int) from his.right).trans hq⟩)
          have hk64 : k < 64 := by omega
          have hs64 : s < 64 := by omega
          have hkI : (k : Int) < 64 := by omega
          have hsI : (s : Int) < 64 := by omega
          have hdir : k < s := by exact his.dir.2 rfl
          have hdirI : (k : Int) < (s : Int) := by omega
          have hl1 : decide (s ≤ k) = false := by simp; omega
          have hl2 : decide (k ≤ s) = true := by simp; omega
          have HS := Lib.hid (fun W => cside_eq c (k : Int) (s : Int) 0 0 true 0 W hc (by omega) (by omega) (T.side_is his))
          have HG := Lib.hid (fun W => cgoals_eq c (k : Int) (s : Int) 0 0 true (.tuple #[.int .i64 62, .int .i64 61, .bool true]) W hc (by omega) (by omega) (by rw [T.side_is his]; unfold T.goalsV; rw [his.turn]; rfl))
          clear his hm hq hne
          go_wp2_with (first
            | ((with_reducible refine wp_load_box rfl _ rfl ?_); refine ⟨_, _, rfl, (by first | exact hp | exact hp.alloc _), ?_⟩)
            | ((with_reducible refine wp_load_row' rfl 36 _ rfl Tryd.underlying36 rfl ?_); refine ⟨_, _, _, rfl, hM, ?_, ?_⟩; exact Tryd.size_MoveS)
            | (go_at_call 23; refine (HG.out _).mono ?_; rintro e u1 ⟨rfl, hb⟩; replace hM := hM.below hb; replace hp := (hp.alloc _).below hb; replace hbr := below_next (hbr.alloc hbr.size _) hb; replace hbu := below_next (hbu.alloc hbu.size _) hb; clear hb)
            | (go_at_call 17; refine (HS.out _).mono ?_; rintro e u2 ⟨rfl, hb⟩; replace hM := hM.below hb; replace hp := hp.below hb; replace hbr := below_next hbr hb; replace hbu := below_next hbu hb; clear hb))
          have ck := hp.bd (s := k) hk64
          have cs := hp.bd (s := s) hs64
          have c78 := hp.cell (i := 78) (by decide)
          have cr := hp.cell (i := 81) (by decide)
          rw [Hc.out.1] at ck
          rw [Hc.out.2.1] at cs
          rw [Hc.out.2.2.1, show pk 78 = .u8 from rfl] at c78
          rw [Hc.out.2.2.2, show pk 81 = .i8 from rfl] at cr
          have mf := hM.cell 0
          have mt := hM.cell 1
          simp only [List.getElem?_toArray, List.getElem?_cons_zero, List.getElem?_cons_succ] at mf mt
          have hlp := hp.lt
          have hlm := hM.lt
          go_quiet (fail)
          clear ck cs c78 cr mf mt hlp hlm
          replace hp := hp.drewN nq
          replace hM := hM.drewN nq
          replace hbr := T.below_drewS hbr nq
          replace hbu := T.below_drewS hbu nq
          revert hp hM hbr hbu
          generalize u2.drewN nq = u3
          intro hp hM hbr hbu
          have ck := hp.bd (s := k) hk64
          have cs := hp.bd (s := s) hs64
          have c78 := hp.cell (i := 78) (by decide)
          have cr := hp.cell (i := 81) (by decide)
          rw [Hc.out.1] at ck
          rw [Hc.out.2.1] at cs
          rw [Hc.out.2.2.1, show pk 78 = .u8 from rfl] at c78
          rw [Hc.out.2.2.2, show pk 81 = .i8 from rfl] at cr
          have mf := hM.cell 0
          have mt := hM.cell 1
          simp only [List.getElem?_toArray, List.getElem?_cons_zero, List.getElem?_cons_succ] at mf mt
          have hlp := hp.lt
          have hlm := hM.lt
          go_wp2
          go_quiet (fail)
          go_wp2
          exact ⟨⟨n + 1, by omega, by go_num, hp.drewN nq, T.below_drewS hbu nq, T.below_drewS hbr nq⟩, by simp [intOf]; omega⟩
        · have hk := his.khome
          have hs := his.shome
          have hne := his.ne
          have kd : (k : Int).tdiv 8 = 7 := by rw [Int.tdiv_eq_ediv_of_nonneg (by omega)]; omega
          have sd : (s : Int).tdiv 8 = 7 := by rw [Int.tdiv_eq_ediv_of_nonneg (by omega)]; omega
          obtain ⟨q, hq⟩ : ∃ q : Nat, (s : Int) - 56 * ((1 : Nat) : Int) = (q : Int) := ⟨s - 56, by omega⟩
          have hq8 : (q : Int) < 8 := by omega
          have sm : (s : Int).tmod 8 = (q : Int) := by rw [Int.tmod_eq_emod_of_nonneg (by omega)]; omega
          have Hc := Lib.hid (show c (1 + k) = 14 ∧ c (1 + s) = 12 ∧ c 78 = 1 ∧ c 82 = (q : Int) from ⟨his.king, his.rook, his.turn, (show c 82 = (s : Int) - 56 * ((1 : Nat) : Int) from his.right).trans hq⟩)
          have hk64 : k < 64 := by omega
          have hs64 : s < 64 := by omega
          have hkI : (k : Int) < 64 := by omega
          have hsI : (s : Int) < 64 := by omega
          have hdir : s < k := by have hnn : ¬ k < s := fun e => absurd (his.dir.1 e) (by decide); omega
          have hdirI : (s : Int) < (k : Int) := by omega
          have hl1 : decide (s ≤ k) = true := by simp; omega
          have hl2 : decide (k ≤ s) = false := by simp; omega
          have HS := Lib.hid (fun W => cside_eq c (k : Int) (s : Int) 0 0 true 1 W hc (by omega) (by omega) (T.side_is his))
          have HG := Lib.hid (fun W => cgoals_eq c (k : Int) (s : Int) 0 0 true (.tuple #[.int .i64 58, .int .i64 59, .bool true]) W hc (by omega) (by omega) (by rw [T.side_is his]; unfold T.goalsV; rw [his.turn]; rfl))
          clear his hm hq hne
          go_wp2_with (first
            | ((with_reducible refine wp_load_box rfl _ rfl ?_); refine ⟨_, _, rfl, (by first | exact hp | exact hp.alloc _), ?_⟩)
            | ((with_reducible refine wp_load_row' rfl 36 _ rfl Tryd.underlying36 rfl ?_); refine ⟨_, _, _, rfl, hM, ?_, ?_⟩; exact Tryd.size_MoveS)
            | (go_at_call 23; refine (HG.out _).mono ?_; rintro e u1 ⟨rfl, hb⟩; replace hM := hM.below hb; replace hp := (hp.alloc _).below hb; replace hbr := below_next (hbr.alloc hbr.size _) hb; replace hbu := below_next (hbu.alloc hbu.size _) hb; clear hb)
            | (go_at_call 17; refine (HS.out _).mono ?_; rintro e u2 ⟨rfl, hb⟩; replace hM := hM.below hb; replace hp := hp.below hb; replace hbr := below_next hbr hb; replace hbu := below_next hbu hb; clear hb))
          have ck := hp.bd (s := k) hk64
          have cs := hp.bd (s := s) hs64
          have c78 := hp.cell (i := 78) (by decide)
          have cr := hp.cell (i := 82) (by decide)
          rw [Hc.out.1] at ck
          rw [Hc.out.2.1] at cs
          rw [Hc.out.2.2.1, show pk 78 = .u8 from rfl] at c78
          rw [Hc.out.2.2.2, show pk 82 = .i8 from rfl] at cr
          have mf := hM.cell 0
          have mt := hM.cell 1
          simp only [List.getElem?_toArray, List.getElem?_cons_zero, List.getElem?_cons_succ] at mf mt
          have hlp := hp.lt
          have hlm := hM.lt
          go_quiet (fail)
          clear ck cs c78 cr mf mt hlp hlm
          replace hp := hp.drewN nq
          replace hM := hM.drewN nq
          replace hbr := T.below_drewS hbr nq
          replace hbu := T.below_drewS hbu nq
          revert hp hM hbr hbu
          generalize u2.drewN nq = u3
          intro hp hM hbr hbu
          have ck := hp.bd (s := k) hk64
          have cs := hp.bd (s := s) hs64
          have c78 := hp.cell (i := 78) (by decide)
          have cr := hp.cell (i := 82) (by decide)
          rw [Hc.out.1] at ck
          rw [Hc.out.2.1] at cs
          rw [Hc.out.2.2.1, show pk 78 = .u8 from rfl] at c78
          rw [Hc.out.2.2.2, show pk 82 = .i8 from rfl] at cr
          have mf := hM.cell 0
          have mt := hM.cell 1
          simp only [List.getElem?_toArray, List.getElem?_cons_zero, List.getElem?_cons_succ] at mf mt
          have hlp := hp.lt
          have hlm := hM.lt
          go_wp2
          go_quiet (fail)
          go_wp2
          exact ⟨⟨n + 1, by omega, by go_num, hp.drewN nq, T.below_drewS hbu nq, T.below_drewS hbr nq⟩, by simp [intOf]; omega⟩
      · obtain rfl : n = L.length := by omega
        have hL2I : (L.length : Int) ≤ 2 := by omega
        have hd2 : decide (L.length ≤ 2) = true := by simp; omega
        go_wp2_with (first
          | (go_at_call 16; refine (awake14_any _ (HT.out _ hbr)).mono ?_; rintro e u1 ⟨rfl, hb⟩; replace hbr := below_next hbr hb; clear hb))
        go_ret
        exact ⟨rfl, hbr⟩
  · have hL0 : L = [] := by cases L with | nil => rfl | cons x l => simp at hl
    subst hL0
    obtain ⟨ao, cap, rfl⟩ : ∃ ao cap, v = .slice ao 0 cap := by
      rcases hown.2 with ⟨e, _⟩ | ⟨g, cap, cur, e, _⟩
      · exact ⟨_, _, e⟩
      · exact ⟨_, _, e⟩
    clear hown hl hL2
    go_wp2
    go_loopw [4] (fun i wr => i = .int .i64 0 ∧ Below w.heap.size w wr) (fun _ _ => 0)
    case atStart => exact ⟨rfl, hB0.out⟩
    case round =>
      obtain ⟨rfl, hbr⟩ := hrel
      go_wp2_with (first
        | (go_at_call 16; refine (awake14_any _ (HT.out _ hbr)).mono ?_; rintro e u1 ⟨rfl, hb⟩; replace hbr := below_next hbr hb; clear hb))
      go_ret
      exact ⟨rfl, hbr⟩

end Go.Proofs.YtnkkhdcjbjiimaaDoor
