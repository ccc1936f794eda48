/- The program's package squares: which numbers are squares; files, ranks, texts. -/
import Derived.Test.YtldpejeodhkgdaaLib
import Derived.Test.YtldpejeodhkgdaaRow
import Derived.Laws.IdiomStrings
namespace Go.Proofs.Ytldpejeodhkgdaa
open Go.RowKit Go.Sort

namespace Sq
def sq (s : Int) : Bool := decide (0 ≤ s) && decide (s < 64)
/-- A square's text. -/
def text (s : Nat) : ByteArray := ⟨#[UInt8.ofNat (97 + s % 8), UInt8.ofNat (49 + s / 8)]⟩
end Sq
theorem squares1_any (g : Nat) (s : Int) (w : World) (hc : w.cell? ⟨g, 0, none⟩ = some (.int .i64 s)) :
    Calls Try.prog 43 #[.slice (some ⟨g, 0, none⟩) 1 1] w fun e w' => e = .returned (.bool (Sq.sq s)) ∧ w = w' := by
  unfold Sq.sq
  by_cases h : s < 0
  · have e1 : decide (0 ≤ s) = false := by simp; omega
    rw [e1]
    go_enter Try.func43, Try.ntmps43
    go_wp2
    refine wp_loop_rounds 2 ?_
    rw [rounds_succ]
    go_wp2
    go_ret
    exact ⟨rfl, rfl⟩
  · have e1 : decide (0 ≤ s) = true := by simp; omega
    have e0 : decide (s < 0) = false := by simpa using h
    by_cases h2 : 64 ≤ s
    · have e2 : decide (s < 64) = false := by simp; omega
      rw [e1, e2]
      go_enter Try.func43, Try.ntmps43
      go_wp2
      refine wp_loop_rounds 2 ?_
      rw [rounds_succ]
      go_wp2
      go_ret
      exact ⟨rfl, rfl⟩
    · have e2 : decide (s < 64) = true := by simp; omega
      have e3 : decide (64 ≤ s) = false := by simp; omega
      rw [e1, e2]
      clear h h2 e1 e2
      go_enter Try.func43, Try.ntmps43
      go_wp2
      refine wp_loop_rounds 2 ?_
      rw [rounds_succ]
      go_wp2
      rw [rounds_succ]
      go_wp2
      go_ret
      exact ⟨rfl, rfl⟩
theorem squares1_new (s : Int) (b : Bool) (w : World) (T : TypeId) (h : Sq.sq s = b) :
    Calls Try.prog 43 #[.slice (some ⟨w.heap.size, 0, none⟩) 1 1] (w.alloc (.cells #[.int .i64 s] T)) fun e w' => e = .returned (.bool b) ∧ w.alloc (.cells #[.int .i64 s] T) = w' := by
  rw [← h]
  exact squares1_any _ s _ ((RowAt.new w #[.int .i64 s] T).cell 0)
theorem sqfile_any (s : Nat) (w : World) (hs : s < 64) : Calls Try.prog 44 #[.int .i64 (s : Int)] w fun e w' => e = .returned (.int .i64 ((s % 8 : Nat) : Int)) ∧ Below w.heap.size w w' := by
  have hq : Sq.sq (s : Int) = true := by unfold Sq.sq; simp; omega
  have h1 : (s : Int).tmod 8 = ((s % 8 : Nat) : Int) := by rw [Int.tmod_eq_emod_of_nonneg (by omega)]; omega
  have h2 : IntKind.i64.wrap ((s % 8 : Nat) : Int) = ((s % 8 : Nat) : Int) := by rw [IntKind.wrap_i64]; omega
  have hb : Below w.heap.size w (w.alloc (.cells #[.int .i64 (s : Int)] 3)) := (Below.refl _ _).alloc (Nat.le_refl _) _
  go_enter Try.func44, Try.ntmps44
  go_wp2_with (go_at_call 43; refine (squares1_new _ true _ _ hq).mono ?_; rintro e w' ⟨rfl, rfl⟩)
  go_ret
  exact ⟨rfl, hb⟩
theorem sqrank_any (s : Nat) (w : World) (hs : s < 64) : Calls Try.prog 45 #[.int .i64 (s : Int)] w fun e w' => e = .returned (.int .i64 ((s / 8 : Nat) : Int)) ∧ Below w.heap.size w w' := by
  have hq : Sq.sq (s : Int) = true := by unfold Sq.sq; simp; omega
  have h1 : (s : Int).tdiv 8 = ((s / 8 : Nat) : Int) := by rw [Int.tdiv_eq_ediv_of_nonneg (by omega)]; omega
  have h2 : IntKind.i64.wrap ((s / 8 : Nat) : Int) = ((s / 8 : Nat) : Int) := by rw [IntKind.wrap_i64]; omega
  have hb : Below w.heap.size w (w.alloc (.cells #[.int .i64 (s : Int)] 3)) := (Below.refl _ _).alloc (Nat.le_refl _) _
  go_enter Try.func45, Try.ntmps45
  go_wp2_with (go_at_call 43; refine (squares1_new _ true _ _ hq).mono ?_; rintro e w' ⟨rfl, rfl⟩)
  go_ret
  exact ⟨rfl, hb⟩
theorem two_bytes (x y : Nat) (W : World) (hx : x < 256) (hy : y < 256) : (convert 65 9 (.slice (some ⟨W.heap.size, 0, none⟩) 2 2)).run Try.prog (W.alloc (.cells #[.int .u8 (x : Int), .int .u8 (y : Int)] 5)) = .ok (.string ⟨#[UInt8.ofNat x, UInt8.ofNat y]⟩) (W.alloc (.cells #[.int .u8 (x : Int), .int .u8 (y : Int)] 5)) := by
  have h := RowAt.new W #[.int .u8 (x : Int), .int .u8 (y : Int)] 5
  have ex : ((UInt8.ofNat x).toNat : Int) = x := by rw [UInt8.toNat_ofNat', Nat.mod_eq_of_lt (by omega)]
  have ey : ((UInt8.ofNat y).toNat : Int) = y := by rw [UInt8.toNat_ofNat', Nat.mod_eq_of_lt (by omega)]
  exact run_convert_bytes_back (P := Try.prog) (W.alloc (.cells #[.int .u8 (x : Int), .int .u8 (y : Int)] 5)) 65 9 5 ⟨W.heap.size, 0, none⟩ 2 [UInt8.ofNat x, UInt8.ofNat y] Try.underlying65 Try.underlying5 Try.underlying9 (fun j hj => by
    match j, hj with
    | 0, _ => rw [show ((⟨W.heap.size, 0, none⟩ : Addr).add 0) = ⟨W.heap.size, 0, none⟩ from rfl, h.cell 0]; show some (Value.int .u8 (x : Int)) = _; rw [← ex]; rfl
    | 1, _ => rw [show ((⟨W.heap.size, 0, none⟩ : Addr).add 1) = ⟨W.heap.size, 1, none⟩ from rfl, h.cell 1]; show some (Value.int .u8 (y : Int)) = _; rw [← ey]; rfl
    | j + 2, hj => simp at hj; omega)
set_option maxRecDepth 10000 in
set_option maxHeartbeats 400000 in
theorem sqtext_any (s : Nat) (w : World) (hs : s < 64) : Calls Try.prog 41 #[.int .i64 (s : Int)] w fun e w' => e = .returned (.string (Sq.text s)) ∧ Below w.heap.size w w' := by
  have hq : Sq.sq (s : Int) = true := by unfold Sq.sq; simp; omega
  have hb0 : Below w.heap.size w (w.alloc (.cells #[.int .i64 (s : Int)] 3)) := (Below.refl _ _).alloc (Nat.le_refl _) _
  have HF := Lib.hid (fun W => sqfile_any s W hs)
  have HR := Lib.hid (fun W => sqrank_any s W hs)
  obtain ⟨f, hf⟩ : ∃ f, s % 8 = f := ⟨_, rfl⟩
  obtain ⟨r, hr⟩ : ∃ r, s / 8 = r := ⟨_, rfl⟩
  have hf8 : f < 8 := by omega
  have hr8 : r < 8 := by omega
  have HT : Hid (Sq.text s = ⟨#[UInt8.ofNat (97 + f), UInt8.ofNat (49 + r)]⟩) := Lib.hid (by unfold Sq.text; rw [hf, hr])
  rw [hf] at HF
  rw [hr] at HR
  clear hf hr
  obtain ⟨x, hx⟩ : ∃ x, 97 + f = x := ⟨_, rfl⟩
  obtain ⟨y, hy⟩ : ∃ y, 49 + r = y := ⟨_, rfl⟩
  have w1 : IntKind.i64.wrap (97 + (f : Int)) = (x : Int) := by rw [IntKind.wrap_i64]; omega
  have w2 : IntKind.i64.wrap (49 + (r : Int)) = (y : Int) := by rw [IntKind.wrap_i64]; omega
  have w3 : IntKind.u8.wrap (x : Int) = (x : Int) := by unfold IntKind.wrap; simp [IntKind.bits, IntKind.signed]; omega
  have w4 : IntKind.u8.wrap (y : Int) = (y : Int) := by unfold IntKind.wrap; simp [IntKind.bits, IntKind.signed]; omega
  have hX : x < 256 := by omega
  have hY : y < 256 := by omega
  have hcv : ∀ W : World, (convert 65 9 (.slice (some ⟨W.heap.size, 0, none⟩) 2 2)).run Try.prog (W.alloc (.cells #[.int .u8 (x : Int), .int .u8 (y : Int)] 5)) = .ok (.string ⟨#[UInt8.ofNat x, UInt8.ofNat y]⟩) (W.alloc (.cells #[.int .u8 (x : Int), .int .u8 (y : Int)] 5)) := fun W => two_bytes x y W hX hY
  rw [hx, hy] at HT
  clear hx hy hf8 hr8 hX hY
  go_enter Try.func41, Try.ntmps41
  go_wp2_with (first
    | (go_at_call 43; refine (squares1_new _ true _ _ hq).mono ?_; rintro e w' ⟨rfl, rfl⟩)
    | (go_at_call 44; refine (HF.out _).mono ?_; rintro e w1 ⟨rfl, hb⟩; replace hb0 := below_next hb0 hb; clear hb)
    | (go_at_call 45; refine (HR.out _).mono ?_; rintro e w1 ⟨rfl, hb⟩; replace hb0 := below_next hb0 hb; clear hb))
  go_ret
  exact ⟨ret_str HT.out.symm, hb0.alloc hb0.size _⟩
end Go.Proofs.Ytldpejeodhkgdaa
