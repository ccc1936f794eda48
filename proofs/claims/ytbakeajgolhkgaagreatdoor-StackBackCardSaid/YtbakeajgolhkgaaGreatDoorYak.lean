import Derived.Test.YtbakeajgolhkgaaGreatDoorYai
set_option maxRecDepth 100000
set_option maxHeartbeats 8000000
namespace Go.Proofs.YtbakeajgolhkgaaGreatDoor
open Go.Proofs.Tryz
open Go.RowKit Go.Sort
namespace T
def rk(c:Nat→Int)(t d:Nat):Nat:=(56*(t:Int)+c (rightAt t d)).toNat
def cand(c:Nat→Int)(t d k:Nat):Option Nat:=
 if c (rightAt t d)<0∨7<c (rightAt t d)then none
 else if rookOk c t d k (rk c t d)&&mayOk c t d k (rk c t d)then some (rk c t d)else none
def MayEnd(o:Option Nat)(k:Nat)(e:Ending):Prop:=
 (o=none∧∃a b x,e= .returned (.tuple #[.agg #[.int .i8 a,.int .i8 b,.int .u8 0,.int .u8 0,.bool x],.bool false]))∨
 (∃s:Nat,o=some s∧s<64∧e= .returned (.tuple #[.agg #[.int .i8 (k:Int),.int .i8 (s:Int),.int .u8 0,.int .u8 0,.bool true],.bool true]))
end T
theorem zeU(c:Nat→Int)(t d k:Nat)(w:World)(hc:PosOk c)(ht:t<2)(hd:d<2)(hk:k<64)(hct:c 78=(t:Int))(hT:Tb w):
  Calls prog 195 #[.agg (posC c),.int .i64 (k:Int),.int .i64 (d:Int)] w fun e w'=>T.MayEnd (T.cand c t d k) k e∧Below w.heap.size w w':=by
 by_cases hf:c (T.rightAt t d)<0∨7<c (T.rightAt t d)
 ·have e:T.cand c t d k=none:=by unfold T.cand;rw [if_pos hf]
  rw [e]
  refine(zeu c d k 0 w (fun W=>zhr c t d k W hc ht hd hct hf)).mono ?_
  rintro e w' ⟨rfl,hb⟩
  exact⟨.inl ⟨rfl,_,_,_,rfl⟩,hb⟩
 ·have hs:56*t≤T.rk c t d∧T.rk c t d≤56*t+7:=by unfold T.rk;omega
  have hfs:c (T.rightAt t d)=((T.rk c t d:Nat):Int)-56*t:=by unfold T.rk;omega
  cases hr:T.rookOk c t d k (T.rk c t d)
  ·have e:T.cand c t d k=none:=by unfold T.cand;rw [if_neg hf,hr];rfl
   rw [e]
   refine(zeu c d k ((T.rk c t d:Nat):Int) w (fun W=>zfL c t d k _ false W hc ht hd hct hs hfs hr)).mono ?_
   rintro e w' ⟨rfl,hb⟩
   exact⟨.inl ⟨rfl,_,_,_,rfl⟩,hb⟩
  ·refine(ziR c t d k _ w hc ht hd hk hct hs hfs hr hT).mono ?_
   rintro e w' ⟨rfl,hb⟩
   refine⟨?_,hb⟩
   cases hm:T.mayOk c t d k (T.rk c t d)
   ·exact .inl ⟨by unfold T.cand;rw [if_neg hf,hr,hm];rfl,_,_,_,rfl⟩
   ·exact .inr ⟨_,by unfold T.cand;rw [if_neg hf,hr,hm];rfl,by omega,rfl⟩
end Go.Proofs.YtbakeajgolhkgaaGreatDoor
