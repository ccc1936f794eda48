/- slices' stable sorting at structs of k cells: runs exchanged. -/
import Derived.Test.YtdcmjbebkmicaaaSortA2
namespace Go.Proofs.Ytdcmjbebkmicaaa
open Go.Shelf Go.RowKit Go.Lib Go.Sort
variable {P : Program} {α : Type} [Inhabited α]

set_option maxHeartbeats 2000000 in
set_option maxRecDepth 1000000 in
theorem swapRange_w (k : Nat) (L : StL P k) (enc : α → List Value) (hk : ∀ x, (enc x).length = k) (he : ∀ x, ∀ v ∈ enc x, v.oneCell' = true) (o : Nat → α) (N : Nat) (g : Nat → Nat) (blk off cap a b n : Nat) (f : Nat) (cb : Array Value) (w0 : World) (m : Nat) (os : Array Obj) (d0 : Array α)
    (hH : HoldsK enc k w0 blk off d0) (hd : d0.size = N) (hblk : blk < w0.heap.size) (hN : N < 4611686018427387904) (h1 : a + n ≤ b) (h2 : b + n ≤ N) :
    Calls P 84 #[.slice (some ⟨blk, off, none⟩) N cap, .int .i64 (a : Int), .int .i64 (b : Int), .int .i64 (n : Int), .func (.func f) #[] cb] (sortWorldK enc k w0 blk off m (Stab.row o N g) os) fun e w' => e = .returned (.tuple #[]) ∧ ∃ m' os', w' = sortWorldK enc k w0 blk off m' (Stab.row o N (Stab.swr g a b n)) os' := by
  have mixed := L.mixed; have t0 := L.t0; have a0 := L.a0; have z0 := L.z0; have v0 := L.v0; have t3 := L.t3; have a3 := L.a3; have z3 := L.z3; have v3 := L.v3; have t4 := L.t4; have a4 := L.a4; have z4 := L.z4; have v4 := L.v4
  have tS := L.tS; have aS := L.aS; have zS := L.zS; have vS := L.vS; have tC := L.tC; have aC := L.aC; have zC := L.zC; have vC := L.vC; have aE := L.aE; have zE := L.zE
  have uS := run_underlying L.tS
  have HH := Lib.hid hH
  have Hd := Lib.hid hd
  have HK := Lib.hid hk
  have H1 := Lib.hid he
  clear hH hd hk he
  obtain ⟨W, hW⟩ : ∃ W, sortWorldK enc k w0 blk off m (Stab.row o N g) os = W := ⟨_, rfl⟩
  rw [hW]
  have HW := Lib.hid hW
  clear hW
  go_enter L.fSwr, Try.ntmps84
  go_wp2
  go_loopw [10] (fun i wr => ∃ (q m' : Nat) (os' : Array Obj), q ≤ n ∧ i = .int .i64 (q : Int) ∧ wr = sortWorldK enc k w0 blk off m' (Stab.row o N (Stab.swr g a b q)) os') (fun i _ => n - (intOf i).toNat)
  case atStart => exact ⟨0, m, os, by omega, rfl, by rw [Stab.swr_zero]; exact HW.out.symm⟩
  case round =>
    obtain ⟨q, m', os', hq, rfl, rfl⟩ := hrel
    obtain ⟨wq, hwq⟩ : ∃ wq, sortWorldK enc k w0 blk off m' (Stab.row o N (Stab.swr g a b q)) os' = wq := ⟨_, rfl⟩
    rw [hwq]
    have Hwq := Lib.hid hwq
    clear hwq
    by_cases hlt : q < n
    · obtain ⟨xa, hxa⟩ : ∃ x, (Stab.row o N (Stab.swr g a b q))[a + q]! = x := ⟨_, rfl⟩
      obtain ⟨xb, hxb⟩ : ∃ x, (Stab.row o N (Stab.swr g a b q))[b + q]! = x := ⟨_, rfl⟩
      have hsz := Stab.row_size o N (Stab.swr g a b q)
      have hHq : HoldsK enc k wq blk off (Stab.row o N (Stab.swr g a b q)) := by rw [← Hwq.out]; exact holdsK_sortWorldK_c enc k w0 blk off d0 _ _ _ HH.out hblk (by rw [hsz, Hd.out])
      have hHd : HoldsK enc k wq.drew blk off (Stab.row o N (Stab.swr g a b q)) := hHq
      have bnd : ∀ x, x < N → x * k + k ≤ N * k := fun x hx => by
        have := Nat.mul_le_mul_right k (show x + 1 ≤ N from hx); rwa [Nat.add_mul, Nat.one_mul] at this
      have la : Sem.run P (loadCellsFrom ⟨blk, off + (a + q) * k, none⟩ 0 k #[]) wq.drew = .ok (enc xa).toArray wq.drew := by rw [← hxa]; exact run_loadCellsFrom_list _ _ _ _ k (HK.out _) (HoldsK.cells hHd HK.out (by rw [hsz]; omega))
      have lb : Sem.run P (loadCellsFrom ⟨blk, off + (b + q) * k, none⟩ 0 k #[]) wq.drew = .ok (enc xb).toArray wq.drew := by rw [← hxb]; exact run_loadCellsFrom_list _ _ _ _ k (HK.out _) (HoldsK.cells hHd HK.out (by rw [hsz]; omega))
      have s1 : Sem.run P (storeCells ⟨blk, off + (a + q) * k, none⟩ (enc xb) 0) wq.drew = .ok () (wq.drew.setCells blk (off + (a + q) * k) (enc xb)) := stores_of_holds _ hHd ((a + q) * k) _ (by rw [HK.out, size_flatK, hsz]; exact bnd (a + q) (by omega)) (H1.out _)
      have s2 : Sem.run P (storeCells ⟨blk, off + (b + q) * k, none⟩ (enc xa) 0) (wq.drew.setCells blk (off + (a + q) * k) (enc xb)) = .ok () ((wq.drew.setCells blk (off + (a + q) * k) (enc xb)).setCells blk (off + (b + q) * k) (enc xa)) :=
        stores_of_holds _ (holds_setCells_c hHd ((a + q) * k) _ (by rw [HK.out, size_flatK, hsz]; exact bnd (a + q) (by omega))) ((b + q) * k) _ (by rw [HK.out, size_setMany, size_flatK, hsz]; exact bnd (b + q) (by omega)) (H1.out _)
      have hwa : IntKind.i64.wrap ((a : Int) + (q : Int)) = (a : Int) + (q : Int) := by rw [IntKind.wrap_i64]; omega
      have hwb : IntKind.i64.wrap ((b : Int) + (q : Int)) = (b : Int) + (q : Int) := by rw [IntKind.wrap_i64]; omega
      have pa : (0 : Int) ≤ (a : Int) + (q : Int) := by omega
      have pb : (0 : Int) ≤ (b : Int) + (q : Int) := by omega
      have qa : (a : Int) + (q : Int) < (N : Int) := by omega
      have qb : (b : Int) + (q : Int) < (N : Int) := by omega
      have ea : ((a : Int) + (q : Int)).toNat = a + q := by omega
      have eb : ((b : Int) + (q : Int)).toNat = b + q := by omega
      have hsA : (enc xa).length = k := HK.out _
      have hsB : (enc xb).length = k := HK.out _
      have HX := Lib.hid (And.intro hxa hxb)
      clear hxa hxb hHq hHd bnd hsz
      obtain ⟨cA, hcA⟩ : ∃ c, c = enc xa := ⟨_, rfl⟩
      obtain ⟨cB, hcB⟩ : ∃ c, c = enc xb := ⟨_, rfl⟩
      rw [← hcA] at la s2 hsA
      rw [← hcB] at lb s1 s2 hsB
      have CC := Lib.hid (And.intro hcA hcB)
      clear hcA hcB
      go_wp2_with fail
      go_big_region_o
      all_goals go_wp2
      go_roundw
      case measure => simp [intOf]; omega
      case rel =>
        refine ⟨q + 1, m' + 1, os', by omega, by go_num, ?_⟩
        rw [CC.out.1, CC.out.2, ← Hwq.out, ← HX.out.1, ← HX.out.2, ← Stab.swr_succ g a b q (by omega), ← Stab.row_swp o N _ (a + q) (b + q) (by omega) (by omega)]
        exact sortWorldK_swp_c enc k w0 blk off HK.out m' _ os' hblk (a + q) (b + q) (by rw [Stab.row_size]; omega) (by rw [Stab.row_size]; omega)
    · obtain rfl : q = n := by omega
      go_wp2
      go_end0
      exact ⟨rfl, m', os', Hwq.out.symm⟩

end Go.Proofs.Ytdcmjbebkmicaaa
