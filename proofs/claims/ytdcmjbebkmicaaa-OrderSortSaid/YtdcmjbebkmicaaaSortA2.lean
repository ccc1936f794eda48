/- What a program must bear for the library's stable sorting at structs of k cells: this program's numbers, k a variable (so that no struct is taken apart). -/
import Derived.Test.YtdcmjbebkmicaaaSortA
namespace Go.Proofs.Ytdcmjbebkmicaaa
open Go.Shelf Go.RowKit Go.Lib Go.Sort

structure StL (P : Program) (k : Nat) : Prop where
  mixed : P.follows .mixedOrders = true
  t0 : P.underlying 0 = some (TypeDesc.tuple #[])
  a0 : ∀ w, (isAgg 0).run P w = .ok false w
  z0 : ∀ w, (Go.sizeOf 0).run P w = .ok 1 w
  v0 : ∀ w, (zeroValue 0).run P w = .ok (Value.tuple #[]) w
  t3 : P.underlying 3 = some (TypeDesc.int IntKind.i64)
  a3 : ∀ w, (isAgg 3).run P w = .ok false w
  z3 : ∀ w, (Go.sizeOf 3).run P w = .ok 1 w
  v3 : ∀ w, (zeroValue 3).run P w = .ok (Value.int IntKind.i64 0) w
  t4 : P.underlying 4 = some (TypeDesc.bool)
  a4 : ∀ w, (isAgg 4).run P w = .ok false w
  z4 : ∀ w, (Go.sizeOf 4).run P w = .ok 1 w
  v4 : ∀ w, (zeroValue 4).run P w = .ok (Value.bool false) w
  tS : P.underlying 40 = some (TypeDesc.slice 33)
  aS : ∀ w, (isAgg 40).run P w = .ok false w
  zS : ∀ w, (Go.sizeOf 40).run P w = .ok 1 w
  vS : ∀ w, (zeroValue 40).run P w = .ok (Value.slice none 0 0) w
  tC : P.underlying 64 = some (TypeDesc.func #[33, 33] #[3] false)
  aC : ∀ w, (isAgg 64).run P w = .ok false w
  zC : ∀ w, (Go.sizeOf 64).run P w = .ok 1 w
  vC : ∀ w, (zeroValue 64).run P w = .ok (Value.nilFunc) w
  tU : P.underlying 102 = some (TypeDesc.int IntKind.u64)
  aU : ∀ w, (isAgg 102).run P w = .ok false w
  zU : ∀ w, (Go.sizeOf 102).run P w = .ok 1 w
  vU : ∀ w, (zeroValue 102).run P w = .ok (Value.int IntKind.u64 0) w
  aE : ∀ w, (isAgg 33).run P w = .ok true w
  zE : ∀ w, (Go.sizeOf 33).run P w = .ok k w
  fSwr : P.funcs[84]? = some Try.f84
  fRot : P.funcs[79]? = some Try.f79
  fSym : P.funcs[73]? = some Try.f73
theorem stL : StL Try.prog 5 where
  mixed := by kernel_rfl
  t0 := by kernel_rfl
  a0 := fun w => by kernel_rfl
  z0 := fun w => by kernel_rfl
  v0 := fun w => by kernel_rfl
  t3 := by kernel_rfl
  a3 := fun w => by kernel_rfl
  z3 := fun w => by kernel_rfl
  v3 := fun w => by kernel_rfl
  t4 := by kernel_rfl
  a4 := fun w => by kernel_rfl
  z4 := fun w => by kernel_rfl
  v4 := fun w => by kernel_rfl
  tS := by kernel_rfl
  aS := fun w => by kernel_rfl
  zS := fun w => by kernel_rfl
  vS := fun w => by kernel_rfl
  tC := by kernel_rfl
  aC := fun w => by kernel_rfl
  zC := fun w => by kernel_rfl
  vC := fun w => by kernel_rfl
  tU := by kernel_rfl
  aU := fun w => by kernel_rfl
  zU := fun w => by kernel_rfl
  vU := fun w => by kernel_rfl
  aE := Try.isAgg_mv
  zE := Try.sizeOf_mv
  fSwr := Try.func84
  fRot := Try.func79
  fSym := Try.func73

end Go.Proofs.Ytdcmjbebkmicaaa
