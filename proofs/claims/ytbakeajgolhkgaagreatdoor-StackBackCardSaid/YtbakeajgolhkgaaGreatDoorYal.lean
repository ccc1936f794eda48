import Derived.Test.YtbakeajgolhkgaaGreatDoorYak
import Derived.Test.YtbakeajgolhkgaaGreatDoorYaj
set_option maxRecDepth 100000
set_option maxHeartbeats 8000000
namespace Go.Proofs.YtbakeajgolhkgaaGreatDoor
open Go.Proofs.Tryz
open Go.RowKit Go.Sort
namespace T
theorem zfj(x:Int)(h0:0≤x)(h1:x≤255)(k:Int)(hk:1≤k∧k≤6)(t:Int)(ht:t=0∨t=1):(P.kind x==k&&D.color x==t)=(x==8*t+k):=by
 rw [Bool.eq_iff_iff,Bool.and_eq_true,D.kind_of x h0 h1]
 unfold D.color
 simp only [beq_iff_eq]
 split<;>omega
theorem is_val{c:Nat→Int}(hc:BdOk c)(s:Nat)(hs:s<64)(t k:Int)(ht:t=0∨t=1)(hk:1≤k∧k≤6):D.is c s t k=(c (1+s)==8*t+k):=by
 unfold D.is
 exact zfj _ (hc s hs).1 (hc s hs).2 k hk t ht
def clist(c:Nat→Int):List (Nat×Nat):=
 if(0≤c 78∧c 78≤1)∧castles (c 0)=true∧0≤S.find c (c 78) 6∧(S.find c (c 78) 6).toNat/8=7*(c 78).toNat then
  [1,0].filterMap fun d=>(cand c (c 78).toNat d (S.find c (c 78) 6).toNat).map fun s=>((S.find c (c 78) 6).toNat,s)
 else []
theorem zik(c:Nat→Int)(color:Int)(h:0≤D.find c color 6):D.is c (D.find c color 6).toNat color 6=true∧(D.find c color 6).toNat<64:=by
 rcases zbg (fun s=>D.is c s color 6) 64 0 with⟨e,_⟩|⟨j,_,hj,e,hp,_⟩
 ·have:D.find c color 6= -1:=e
  omega
 ·have:D.find c color 6=(j:Int):=e
  rw [this,Int.toNat_natCast]
  exact⟨hp,by omega⟩
end T
end Go.Proofs.YtbakeajgolhkgaaGreatDoor
