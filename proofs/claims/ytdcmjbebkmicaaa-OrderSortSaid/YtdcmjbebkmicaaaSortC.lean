/- slices' stable sorting at structs of k cells: two runs change places. -/
import Derived.Test.YtdcmjbebkmicaaaSortB
namespace Go.Proofs.Ytdcmjbebkmicaaa
open Go.Shelf Go.RowKit Go.Lib Go.Sort
variable {P : Program} {α : Type} [Inhabited α]

set_option maxHeartbeats 2000000 in
set_option maxRecDepth 1000000 in
theorem rotate_w (k : Nat) (L : StL P k) (enc : α → List Value) (hk : ∀ x, (enc x).length = k) (he : ∀ x, ∀ v ∈ enc x, v.oneCell' = true) (o : Nat → α) (N : Nat) (g : Nat → Nat) (blk off cap a m b : Nat) (f : Nat) (cb : Array Value) (w0 : World) (m0 : Nat) (os : Array Obj) (d0 : Array α)
    (hH : HoldsK enc k w0 blk off d0) (hd : d0.size = N) (hblk : blk < w0.heap.size) (hN : N < 4611686018427387904) (h1 : a < m) (h2 : m < b) (h3 : b ≤ N) :
    Calls P 79 #[.slice (some ⟨blk, off, none⟩) N cap, .int .i64 (a : Int), .int .i64 (m : Int), .int .i64 (b : Int), .func (.func f) #[] cb] (sortWorldK enc k w0 blk off m0 (Stab.row o N g) os) fun e w' => e = .returned (.tuple #[]) ∧ ∃ m' os', w' = sortWorldK enc k w0 blk off m' (Stab.row o N (Stab.rot g a m b)) os' := by
  have mixed := L.mixed; have t0 := L.t0; have a0 := L.a0; have z0 := L.z0; have v0 := L.v0; have t3 := L.t3; have a3 := L.a3; have z3 := L.z3; have v3 := L.v3; have t4 := L.t4; have a4 := L.a4; have z4 := L.z4; have v4 := L.v4
  have tS := L.tS; have aS := L.aS; have zS := L.zS; have vS := L.vS; have tC := L.tC; have aC := L.aC; have zC := L.zC; have vC := L.vC
  have eS : ∀ args w, (callFunc 84 args).run P w = .ok (.enter 84 args) w := enters_of L.fSwr (by kernel_rfl) rfl
  have HS := Lib.hid (fun (g' : Nat → Nat) (x y n m' : Nat) (os' : Array Obj) (k1 : x + n ≤ y) (k2 : y + n ≤ N) => swapRange_w k L enc hk he o N g' blk off cap x y n f cb w0 m' os' d0 hH hd hblk hN k1 k2)
  clear hH hd hk he
  obtain ⟨W, hW⟩ : ∃ W, sortWorldK enc k w0 blk off m0 (Stab.row o N g) os = W := ⟨_, rfl⟩
  rw [hW]
  have HW := Lib.hid hW
  clear hW
  have hi0 : IntKind.i64.wrap ((m : Int) - (a : Int)) = ((m - a : Nat) : Int) := by rw [IntKind.wrap_i64]; omega
  have hj0 : IntKind.i64.wrap ((b : Int) - (m : Int)) = ((b - m : Nat) : Int) := by rw [IntKind.wrap_i64]; omega
  go_enter L.fRot, Try.ntmps79
  go_wp2
  go_loopw [10, 11] (fun vi vj wr => ∃ (i j m' : Nat) (g' : Nat → Nat) (os' : Array Obj), vi = .int .i64 (i : Int) ∧ vj = .int .i64 (j : Int) ∧ 0 < i ∧ 0 < j ∧ i ≤ m ∧ m + j ≤ N ∧ Stab.rot g' (m - i) m (m + j) = Stab.rot g a m b ∧ wr = sortWorldK enc k w0 blk off m' (Stab.row o N g') os') (fun vi vj _ => (intOf vi).toNat + (intOf vj).toNat)
  case atStart => exact ⟨m - a, b - m, m0, g, os, rfl, rfl, by omega, by omega, by omega, by omega, by rw [show m - (m - a) = a by omega, show m + (b - m) = b by omega], HW.out.symm⟩
  case round =>
    obtain ⟨i, j, m', g', os', rfl, rfl, hi, hj, him, hjN, hr, rfl⟩ := hrel
    have Hr := Lib.hid hr
    clear hr
    have hwm : IntKind.i64.wrap ((m : Int) - (i : Int)) = ((m - i : Nat) : Int) := by rw [IntKind.wrap_i64]; omega
    by_cases hne : i = j
    · subst hne
      have hSW := Lib.hid (HS.out g' (m - i) m i m' os' (by omega) (by omega))
      obtain ⟨wq, hwq⟩ : ∃ wq, sortWorldK enc k w0 blk off m' (Stab.row o N g') os' = wq := ⟨_, rfl⟩
      rw [hwq] at hSW ⊢
      clear hwq
      go_wp2_with (go_at_fn 84; refine hSW.out.mono ?_; rintro e w' ⟨rfl, m2, os2, rfl⟩)
      go_end0
      exact ⟨rfl, m2, os2, by rw [← Hr.out, Stab.rot_even g' i m him]⟩
    · have hneI : ((i : Int) != (j : Int)) = true := by simp; omega
      by_cases hgt : j < i
      · have hgtI : (j : Int) < (i : Int) := by omega
        have hwi : IntKind.i64.wrap ((i : Int) - (j : Int)) = ((i - j : Nat) : Int) := by rw [IntKind.wrap_i64]; omega
        have hSW := Lib.hid (HS.out g' (m - i) m j m' os' (by omega) (by omega))
        obtain ⟨wq, hwq⟩ : ∃ wq, sortWorldK enc k w0 blk off m' (Stab.row o N g') os' = wq := ⟨_, rfl⟩
        rw [hwq] at hSW ⊢
        clear hwq hne
        go_wp2_with (go_at_fn 84; refine hSW.out.mono ?_; rintro e w' ⟨rfl, m2, os2, rfl⟩)
        go_roundw
        case measure => simp [intOf]; omega
        case rel => exact ⟨i - j, j, m2, _, os2, rfl, rfl, by omega, hj, by omega, hjN, by rw [← Hr.out, ← Stab.rot_big g' i j m hgt him, show m - (i - j) = m - i + j by omega], rfl⟩
      · have hlt : i < j := by omega
        have hgtI : ¬ (j : Int) < (i : Int) := by omega
        have hwi : IntKind.i64.wrap ((j : Int) - (i : Int)) = ((j - i : Nat) : Int) := by rw [IntKind.wrap_i64]; omega
        have hw1 : IntKind.i64.wrap ((m : Int) + (j : Int)) = (m : Int) + (j : Int) := by rw [IntKind.wrap_i64]; omega
        have hw2 : IntKind.i64.wrap ((m : Int) + (j : Int) - (i : Int)) = ((m + j - i : Nat) : Int) := by rw [IntKind.wrap_i64]; omega
        have hSW := Lib.hid (HS.out g' (m - i) (m + j - i) i m' os' (by omega) (by omega))
        obtain ⟨wq, hwq⟩ : ∃ wq, sortWorldK enc k w0 blk off m' (Stab.row o N g') os' = wq := ⟨_, rfl⟩
        rw [hwq] at hSW ⊢
        clear hwq hne hgt
        go_wp2_with (go_at_fn 84; refine hSW.out.mono ?_; rintro e w' ⟨rfl, m2, os2, rfl⟩)
        go_roundw
        case measure => simp [intOf]; omega
        case rel => exact ⟨i, j - i, m2, _, os2, rfl, rfl, hi, by omega, him, by omega, by rw [← Hr.out, ← Stab.rot_small g' i j m hlt him], rfl⟩

end Go.Proofs.Ytdcmjbebkmicaaa
