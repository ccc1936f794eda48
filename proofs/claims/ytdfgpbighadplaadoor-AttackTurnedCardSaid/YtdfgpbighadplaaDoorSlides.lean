/- The program's bits.First and package slides: what each function computes. -/
import Derived.Test.YtdfgpbighadplaaDoorRays
import Derived.Test.YtdfgpbighadplaaDoorShelf
import Derived.Shelf.Spec.TrailingZeros
namespace Go.Proofs.YtdfgpbighadplaaDoor
open Go.RowKit Go.Sort

/-- The library's table, as its own text lays it. -/
def Tb (w : World) : Prop := TabAt 0 Lib.deBruijn64tab w
theorem tb_below {w w' : World} (h : Tb w) (hb : Below w.heap.size w w') : Tb w' := fun j hj =>
  (hb.cell (p := ⟨_, j, none⟩) (World.block_lt_of_cell? w _ (h j hj))).trans (h j hj)

set_option maxRecDepth 100000 in
set_option maxHeartbeats 1000000 in
theorem tz64_core (x k idx : Nat) (w : World) (hx0 : ((x : Int) == 0) = false)
    (key : IntKind.u64.wrap (bits BinOp.and IntKind.u64 (x : Int) (IntKind.u64.wrap (-(x : Int))) * 285870213051353865) / 288230376151711744 = (idx : Int))
    (hi : idx < 64) (hk : k < 64) (hcell : w.cell? ⟨0, idx, none⟩ = some (.int .u8 k)) :
    Calls Tryd.prog 72 #[.int .u64 x] w fun e w' => e = .returned (.int .i64 k) ∧ w = w' := by
  go_enter Tryd.func72, Tryd.ntmps72
  go_wp2_with (simp only [key])
  go_ret
  exact ⟨rfl, rfl⟩

/-- The least square of a set that is not empty. -/
def B.first (b : BitVec 64) : Int := if b = 0#64 then -1 else (Lib.ctz 64 b.toNat : Int)

set_option maxRecDepth 100000 in
set_option maxHeartbeats 1000000 in
theorem first_any (b : BitVec 64) (w : World) (hT : Tb w) :
    Calls Tryd.prog 67 #[.int .u64 (U b)] w fun e w' => e = .returned (.int .i64 (B.first b)) ∧ w = w' := by
  by_cases h : b = 0#64
  · have hq : (U b == 0) = true := by rw [U_zero]; simpa using h
    have H := Lib.hid h
    clear h
    go_enter Tryd.func67, Tryd.ntmps67
    go_wp2
    go_ret
    exact ⟨ret_int (by unfold B.first; rw [if_pos H.out]), rfl⟩
  · have hq : (U b == 0) = false := by rw [U_zero]; simpa using h
    have hx0 : b.toNat ≠ 0 := fun e => h (BitVec.eq_of_toNat_eq e)
    obtain ⟨hlow, hk⟩ := Lib.lowest_bit 64 b.toNat hx0 b.isLt
    obtain ⟨hi, htab⟩ := Lib.deBruijn64_at _ hk
    have hcell := hT _ hi
    rw [htab] at hcell
    have C := Lib.hid (tz64_core b.toNat _ _ w (by simp; omega) (tz64_key b.toNat _ b.isLt hx0 hlow) hi hk hcell)
    have H := Lib.hid h
    clear h hlow htab hcell hi hk hx0
    go_enter Tryd.func67, Tryd.ntmps67
    go_wp2_with (go_at_call 72; refine C.out.mono ?_; rintro e w' ⟨rfl, rfl⟩)
    go_ret
    exact ⟨ret_int (by unfold B.first; rw [if_neg H.out]), rfl⟩

/-- The greatest square of a set that is not empty. -/
def B.last (b : BitVec 64) : Int := (Lib.bitLen b.toNat : Int) - 1
theorem U_bd2 (b : BitVec 64) : U b ≤ 18446744073709551615 := by have := bv_lt b; unfold U; omega
theorem B.last_bd (b : BitVec 64) : (Lib.bitLen b.toNat) ≤ 64 := Any.bitLen_le64 (U b) (U_bd b) (U_bd2 b)
set_option maxRecDepth 100000 in
set_option maxHeartbeats 1000000 in
theorem last_any (b : BitVec 64) (w : World) :
    Calls Tryd.prog 76 #[.int .u64 (U b)] w fun e w' => e = .returned (.int .i64 (B.last b)) ∧ w = w' := by
  have hb := Any.bitLen_le64 (U b) (U_bd b) (U_bd2 b)
  have H := Lib.hid (show 63 - (64 - (Lib.bitLen (U b).toNat : Int)) = B.last b by rw [show (U b).toNat = b.toNat from rfl]; unfold B.last; omega)
  go_enter Tryd.func76, Tryd.ntmps76
  go_wp2_with (go_at_call 77; refine (Tryd.bits_LeadingZeros64 _ _ (U_bd b) (U_bd2 b)).mono ?_; rintro e w' ⟨rfl, rfl⟩)
  go_ret
  exact ⟨ret_int (by first | exact H.out | omega), rfl⟩

@[go_sem] theorem store_func (P : Program) (w : World) (a : Addr) (m : Mode) (f : Fn) (x y : Array Value) : (store a (.func f x y) m).run P w = stored P w a (.func f x y) m := run_store P w a _ m rfl

namespace L
def wayF (d : Int) : Nat := if 3 ≤ d ∧ d ≤ 6 then 76 else 67
def near (d : Int) (b : BitVec 64) : Int := if 3 ≤ d ∧ d ≤ 6 then B.last b else B.first b
def dir (s : Int) (d : Nat) (occ : BitVec 64) : BitVec 64 :=
  if bAnd (R.ray s d) occ = 0#64 then R.ray s d else bAndn (R.ray s d) (R.ray (near d (bAnd (R.ray s d) occ)) d)
def seen (s : Int) (occ : BitVec 64) (ds : List Nat) : BitVec 64 := ds.foldl (fun b d => bOr b (dir s d occ)) 0#64
def rook (s : Int) (occ : BitVec 64) : BitVec 64 := seen s occ [0, 2, 4, 6]
def bishop (s : Int) (occ : BitVec 64) : BitVec 64 := seen s occ [1, 3, 5, 7]
def queen (s : Int) (occ : BitVec 64) : BitVec 64 := bOr (rook s occ) (bishop s occ)
end L

set_option maxRecDepth 100000 in
set_option maxHeartbeats 1000000 in
theorem wayOf_any (d : Int) (w : World) :
    Calls Tryd.prog 75 #[.int .i64 d] w fun e w' => e = .returned (.agg #[.func (.func (L.wayF d)) #[] #[]]) ∧ Below w.heap.size w w' := by
  by_cases h : 3 ≤ d ∧ d ≤ 6
  · have H := Lib.hid h
    obtain ⟨h0, h1⟩ := h
    go_enter Tryd.func75, Tryd.ntmps75
    go_wp2
    refine bodyPost_ret (v := .agg #[.func (.func (L.wayF d)) #[] #[]]) ?_ rfl ⟨rfl, (Below.refl _ _).alloc (Nat.le_refl _) _⟩
    simp [results, Tryd.results75, go_sem, L.wayF, if_pos H.out]
  · have H := Lib.hid h
    have h2 : d < 3 ∨ 6 < d := by omega
    clear h
    rcases h2 with h2 | h2
    all_goals
      go_enter Tryd.func75, Tryd.ntmps75
      go_wp2
      refine bodyPost_ret (v := .agg #[.func (.func (L.wayF d)) #[] #[]]) ?_ rfl ⟨rfl, (Below.refl _ _).alloc (Nat.le_refl _) _⟩
      simp [results, Tryd.results75, go_sem, L.wayF, if_neg H.out]


theorem wayOf_eq (d : Int) (f : Nat) (w : World) (h : L.wayF d = f) :
    Calls Tryd.prog 75 #[.int .i64 d] w fun e w' => e = .returned (.agg #[.func (.func f) #[] #[]]) ∧ Below w.heap.size w w' := by
  subst h; exact wayOf_any d w

set_option maxRecDepth 100000 in
set_option maxHeartbeats 1000000 in
theorem dir_any (s : Int) (d : Nat) (occ : BitVec 64) (w : World) (hd : d < 8) (hT : Tb w) :
    Calls Tryd.prog 70 #[.int .i64 s, .int .i64 (d : Int), .int .u64 (U occ)] w fun e w' => e = .returned (.int .u64 (U (L.dir s d occ))) ∧ Below w.heap.size w w' := by
  have HT := Lib.hid hT
  clear hT
  by_cases h : bAnd (R.ray s d) occ = 0#64
  · have hq : (U (bAnd (R.ray s d) occ) == 0) = true := by rw [U_zero]; simpa using h
    have H := Lib.hid h
    clear h
    go_enter Tryd.func70, Tryd.ntmps70
    go_wp2_with (go_at_call 74; refine (ray_any _ _ _ hd).mono ?_; rintro e w1 ⟨rfl, hb1⟩)
    go_ret
    exact ⟨ret_int (by unfold L.dir; rw [if_pos H.out]), hb1⟩
  · have hfd : ∀ (v : Value) (w : World), (Instr.field 91 (.agg #[v]) 0).run Tryd.prog w = .ok v w := fun _ _ => by kernel_rfl
    have hq : (U (bAnd (R.ray s d) occ) == 0) = false := by rw [U_zero]; simpa using h
    have H := Lib.hid h
    clear h
    by_cases hw : 3 ≤ (d : Int) ∧ (d : Int) ≤ 6
    · have Hn := Lib.hid (show L.near d (bAnd (R.ray s d) occ) = B.last (bAnd (R.ray s d) occ) by unfold L.near; rw [if_pos hw])
      have Hw := Lib.hid (show L.wayF d = 76 by unfold L.wayF; rw [if_pos hw])
      clear hw
      go_enter Tryd.func70, Tryd.ntmps70
      go_wp2_with (first | (go_at_call 74; first | (have := hb2; refine (ray_any _ _ _ hd).mono ?_; rintro e w3 ⟨rfl, hb3⟩) | (refine (ray_any _ _ _ hd).mono ?_; rintro e w1 ⟨rfl, hb1⟩)) | (go_at_call 75; refine (wayOf_eq _ _ _ Hw.out).mono ?_; rintro e w2 ⟨rfl, hb2⟩) | (go_at_call 76; refine (last_any _ _).mono ?_; rintro e w4 ⟨rfl, rfl⟩))
      go_ret
      exact ⟨ret_int (by unfold L.dir; rw [if_neg H.out, Hn.out]), below_next (below_next hb1 hb2) hb3⟩
    · have Hn := Lib.hid (show L.near d (bAnd (R.ray s d) occ) = B.first (bAnd (R.ray s d) occ) by unfold L.near; rw [if_neg hw])
      have Hw := Lib.hid (show L.wayF d = 67 by unfold L.wayF; rw [if_neg hw])
      clear hw
      go_enter Tryd.func70, Tryd.ntmps70
      go_wp2_with (first | (go_at_call 74; first | (have := hb2; refine (ray_any _ _ _ hd).mono ?_; rintro e w3 ⟨rfl, hb3⟩) | (refine (ray_any _ _ _ hd).mono ?_; rintro e w1 ⟨rfl, hb1⟩)) | (go_at_call 75; refine (wayOf_eq _ _ _ Hw.out).mono ?_; rintro e w2 ⟨rfl, hb2⟩) | (go_at_call 67; refine (first_any _ _ (tb_below HT.out (below_next hb1 hb2))).mono ?_; rintro e w4 ⟨rfl, rfl⟩))
      go_ret
      exact ⟨ret_int (by unfold L.dir; rw [if_neg H.out, Hn.out]), below_next (below_next hb1 hb2) hb3⟩

set_option maxRecDepth 100000 in
set_option maxHeartbeats 1000000 in
theorem seen_any (s : Int) (occ : BitVec 64) (b n : Nat) (ds : List Nat) (w : World) (hT : Tb w) (hn : ds.length = n) (hn2 : n ≤ 8) (hds : ∀ d ∈ ds, d < 8) (hb : b < w.heap.size) (hc : ∀ (j : Nat) d, ds[j]? = some d → w.cell? ⟨b, j, none⟩ = some (.int .i64 (d : Int))) :
    Calls Tryd.prog 65 #[.int .i64 s, .int .u64 (U occ), .slice (some ⟨b, 0, none⟩) n n] w fun e w' => e = .returned (.int .u64 (U (L.seen s occ ds))) ∧ Below w.heap.size w w' := by
  have Hc := Lib.hid hc
  have Hn := Lib.hid hn
  have Hd := Lib.hid hds
  have HT := Lib.hid hT
  clear hc hn hds hT
  go_enter Tryd.func65, Tryd.ntmps65
  go_wp2
  go_loopw [7, 12] (fun v i wr => ∃ k : Nat, k ≤ n ∧ i = .int .i64 (k : Int) ∧ v = .int .u64 (U (L.seen s occ (ds.take k))) ∧ Below w.heap.size w wr) (fun _ i _ => n - (intOf i).toNat)
  case atStart => exact ⟨0, Nat.zero_le _, rfl, by simp [L.seen]; rfl, Below.refl _ _⟩
  case round =>
    obtain ⟨k, hk, rfl, rfl, hbr⟩ := hrel
    by_cases hlt : k < n
    · obtain ⟨d, hd⟩ : ∃ d, ds[k]? = some d := ⟨_, List.getElem?_eq_getElem (by have := Hn.out; omega)⟩
      have hcell : wr.cell? ⟨b, k, none⟩ = some (.int .i64 (d : Int)) := (hbr.cell (p := ⟨b, k, none⟩) hb).trans (Hc.out k d hd)
      have hd8 : d < 8 := Hd.out d (List.mem_of_getElem? hd)
      have Hs : Hid (L.seen s occ (ds.take (k + 1)) = bOr (L.seen s occ (ds.take k)) (L.dir s d occ)) := by
        rw [List.take_add_one, hd]
        simp [L.seen]
        exact Lib.hid trivial
      have Hd2 := Lib.hid hd
      have HTr := Lib.hid (tb_below HT.out hbr)
      clear hd
      go_wp2_with (go_at_call 70; refine (dir_any _ _ _ _ hd8 HTr.out).mono ?_; rintro e w1 ⟨rfl, hb1⟩)
      exact ⟨⟨k + 1, by omega, by go_num, by rw [Hs.out], below_next hbr hb1⟩, by simp [intOf]; omega⟩
    · obtain rfl : k = n := by omega
      go_wp2
      go_ret
      exact ⟨by rw [List.take_of_length_le (by have := Hn.out; omega)]; rfl, hbr⟩

set_option maxRecDepth 100000 in
set_option maxHeartbeats 1000000 in
theorem rook_any (s : Int) (occ : BitVec 64) (w : World) (hT : Tb w) :
    Calls Tryd.prog 48 #[.int .i64 s, .int .u64 (U occ)] w fun e w' => e = .returned (.int .u64 (U (L.rook s occ))) ∧ Below w.heap.size w w' := by
  have HT := Lib.hid hT
  clear hT
  go_enter Tryd.func48, Tryd.ntmps48
  go_wp2_with (go_at_call 65; refine (seen_any s occ _ 4 [0, 2, 4, 6] _ (tb_below HT.out ((Below.refl _ _).alloc (Nat.le_refl _) _)) rfl (by omega) (by decide) (by simp) (cells_new _ [0, 2, 4, 6] _)).mono ?_; rintro e w1 ⟨rfl, hb1⟩)
  go_ret
  exact ⟨rfl, ((Below.refl _ _).alloc (Nat.le_refl _) _).trans (hb1.mono (by simp))⟩

set_option maxRecDepth 100000 in
set_option maxHeartbeats 1000000 in
theorem bishop_any (s : Int) (occ : BitVec 64) (w : World) (hT : Tb w) :
    Calls Tryd.prog 49 #[.int .i64 s, .int .u64 (U occ)] w fun e w' => e = .returned (.int .u64 (U (L.bishop s occ))) ∧ Below w.heap.size w w' := by
  have HT := Lib.hid hT
  clear hT
  go_enter Tryd.func49, Tryd.ntmps49
  go_wp2_with (go_at_call 65; refine (seen_any s occ _ 4 [1, 3, 5, 7] _ (tb_below HT.out ((Below.refl _ _).alloc (Nat.le_refl _) _)) rfl (by omega) (by decide) (by simp) (cells_new _ [1, 3, 5, 7] _)).mono ?_; rintro e w1 ⟨rfl, hb1⟩)
  go_ret
  exact ⟨rfl, ((Below.refl _ _).alloc (Nat.le_refl _) _).trans (hb1.mono (by simp))⟩

set_option maxRecDepth 100000 in
set_option maxHeartbeats 1000000 in
theorem queen_any (s : Int) (occ : BitVec 64) (w : World) (hT : Tb w) :
    Calls Tryd.prog 50 #[.int .i64 s, .int .u64 (U occ)] w fun e w' => e = .returned (.int .u64 (U (L.queen s occ))) ∧ Below w.heap.size w w' := by
  have HT := Lib.hid hT
  clear hT
  go_enter Tryd.func50, Tryd.ntmps50
  go_wp2_with (first | (go_at_call 48; refine (rook_any _ _ _ HT.out).mono ?_; rintro e w1 ⟨rfl, hb1⟩) | (go_at_call 49; refine (bishop_any _ _ _ (tb_below HT.out hb1)).mono ?_; rintro e w2 ⟨rfl, hb2⟩))
  go_ret
  exact ⟨rfl, below_next hb1 hb2⟩

end Go.Proofs.YtdfgpbighadplaaDoor
