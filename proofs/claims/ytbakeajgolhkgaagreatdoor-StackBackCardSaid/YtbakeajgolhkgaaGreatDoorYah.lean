import Derived.Test.YtbakeajgolhkgaaGreatDoorYac
set_option maxRecDepth 100000
set_option maxHeartbeats 8000000
open Go.Lib (hid)
namespace Go.Proofs.YtbakeajgolhkgaaGreatDoor
open Go.Proofs.Tryz
open Go.RowKit Go.Sort
attribute [local go_sem] Oper.semAt_some
namespace T
theorem below_drew{B:Nat}{a w:World}(h:Below B a w)(n:Nat):Below B a (w.drewN n):=⟨h.os,h.tape,h.output,h.size,h.block⟩
def rightAt(t d:Nat):Nat:=79+2*t+d
def rookOk(c:Nat→Int)(t d k s:Nat):Bool:=c (1+s)==8*(t:Int)+4&&((decide ((k:Int)<(s:Int))==(d==0))&&((s:Int) !=(k:Int)))
end T
theorem pos_i8{c:Nat→Int}(h:PosOk c){i:Nat}(hi:i<88)(hk:pk i= .i8): -128≤c i∧c i≤127:=by
 have:=h i hi
 rw [hk]at this
 exact bounds_i8 this
theorem zhr(c:Nat→Int)(t d k:Nat)(w:World)(hc:PosOk c)(ht:t<2)(hd:d<2)(hct:c 78=(t:Int))(hf:c (T.rightAt t d)<0∨7<c (T.rightAt t d)):
  cB 276 #[.agg (posC c),.int .i64 (k:Int),.int .i64 (d:Int)] w (.tuple #[.int .i64 0,.bool false]):=by
 have hb0:Below w.heap.size w (w.alloc (.cells (posC c) 31)):=bA
 have hp:=PosAt.new w c
 have h78:=hp.cell (i:=78) dc
 rw [hct,show pk 78= .u8 from rfl]at h78
 have hr:=hp.cell (i:=T.rightAt t d) (by unfold T.rightAt;omega)
 have hpk:pk (T.rightAt t d)= .i8:=by
  rcases(show t=0∨t=1 by omega)with rfl|rfl<;>rcases(show d=0∨d=1 by omega)with rfl|rfl<;>rfl
 have hw:=pos_i8 hc (i:=T.rightAt t d) (by unfold T.rightAt;omega) hpk
 rw [hpk]at hr
 generalize c (T.rightAt t d)=f at hr hf hw
 have hwf:wrap64 f=f:=IntWalk.wrap64_in _ ⟨by omega,by omega⟩
 clear hct hw hpk hc
 rcases(show t=0∨t=1 by omega)with rfl|rfl<;>rcases(show d=0∨d=1 by omega)with rfl|rfl<;>rcases hf with hf|hf
 all_goals
  simp only [T.rightAt,Nat.reduceMul,Nat.reduceAdd]at hr
  go_enter func276,ntmps276
  go_wp2_with fail
  go_ret2
  exact⟨rfl,hb0⟩
theorem zfL(c:Nat→Int)(t d k s:Nat)(b:Bool)(w:World)(hc:PosOk c)(ht:t<2)(hd:d<2)(hct:c 78=(t:Int))(hs:56*t≤s∧s≤56*t+7)(hf:c (T.rightAt t d)=(s:Int)-56*t)(hb:T.rookOk c t d k s=b):
  cB 276 #[.agg (posC c),.int .i64 (k:Int),.int .i64 (d:Int)] w (.tuple #[.int .i64 (s:Int),.bool b]):=by
 have hb0:Below w.heap.size w (w.alloc (.cells (posC c) 31)):=bA
 have hp:=PosAt.new w c
 have h78:=hp.cell (i:=78) dc
 rw [hct,show pk 78= .u8 from rfl]at h78
 have hr:=hp.cell (i:=T.rightAt t d) (by unfold T.rightAt;omega)
 have hpk:pk (T.rightAt t d)= .i8:=by
  rcases(show t=0∨t=1 by omega)with rfl|rfl<;>rcases(show d=0∨d=1 by omega)with rfl|rfl<;>rfl
 rw [hpk,hf]at hr
 obtain⟨f,hff⟩:∃f:Int,(s:Int)-56*t=f:=⟨_,rfl⟩
 rw [hff]at hr
 have hs64:s<64:=by omega
 have hcl:=hp.bd hs64
 have hsI:(s:Int)<64:=by omega
 have hs0:(0:Int)≤(s:Int):=by omega
 have hlp:=hp.lt
 have hwf:wrap64 f=f:=IntWalk.wrap64_in _ ⟨by omega,by omega⟩
 have hf0:¬f<0:=by omega
 have hf7:¬7<f:=by omega
 unfold T.rookOk at hb
 obtain⟨x0,x1⟩:=(zw hc) s hs64
 generalize c (1+s)=x at*
 obtain⟨b1,hb1⟩:∃b1,(x==8*(t:Int)+4)=b1:=⟨_,rfl⟩
 obtain⟨b2,hb2⟩:∃b2,decide ((k:Int)<(s:Int))=b2:=⟨_,rfl⟩
 obtain⟨b3,hb3⟩:∃b3,((s:Int) !=(k:Int))=b3:=⟨_,rfl⟩
 rw [hb1,hb2,hb3]at hb
 have Hb:=hid hb
 clear hct hpk hc hf hb
 rcases(show t=0∨t=1 by omega)with rfl|rfl
 ·have hb1':(x==IntKind.u8.wrap (IntKind.u8.wrap 0+4))=b1:=hb1
  have hfs:f=(s:Int):=by omega
  subst hfs
  have hb2':decide (k<s)=b2:=by rw [←hb2,Bool.eq_iff_iff];simp
  have hb3':(s !=k)=b3:=by rw [←hb3,Bool.eq_iff_iff];simp;omega
  clear hb1
  rcases(show d=0∨d=1 by omega)with rfl|rfl<;>cases b1<;>cases b2<;>cases b3
  all_goals
   simp only [T.rightAt,Nat.reduceMul,Nat.reduceAdd]at hr
   go_enter func276,ntmps276
   go_wp2_with (first
    |(go_at_call 194;refine(zA 0 _ dc).mono ?_;rintro e u ⟨rfl,rfl⟩))
   go_quiet (fail)
   go_wp2
   go_ret2
   exact⟨by rw [←Hb.out];rfl,T.below_drew hb0 _⟩
 ·have hb1':(x==IntKind.u8.wrap (IntKind.u8.wrap 8+4))=b1:=hb1
  have hfs:56+f=(s:Int):=by omega
  have hb2':decide (k<s)=b2:=by rw [←hb2,Bool.eq_iff_iff];simp
  have hb3':(s !=k)=b3:=by rw [←hb3,Bool.eq_iff_iff];simp;omega
  clear hb1
  rcases(show d=0∨d=1 by omega)with rfl|rfl<;>cases b1<;>cases b2<;>cases b3
  all_goals
   simp only [T.rightAt,Nat.reduceMul,Nat.reduceAdd]at hr
   go_enter func276,ntmps276
   go_wp2_with (first
    |(go_at_call 194;refine(zA 1 _ dc).mono ?_;rintro e u ⟨rfl,rfl⟩))
   go_quiet (fail)
   go_wp2
   go_ret2
   exact⟨by rw [←Hb.out];rfl,T.below_drew hb0 _⟩
end Go.Proofs.YtbakeajgolhkgaaGreatDoor
