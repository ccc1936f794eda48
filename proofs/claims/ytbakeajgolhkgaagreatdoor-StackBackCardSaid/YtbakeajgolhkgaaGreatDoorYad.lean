import Derived.Test.YtbakeajgolhkgaaGreatDoorYaa
import Derived.Test.YtbakeajgolhkgaaGreatDoorYac
set_option maxRecDepth 100000
set_option maxHeartbeats 8000000
open Go.Lib (hid)
namespace Go.Proofs.YtbakeajgolhkgaaGreatDoor
open Go.Proofs.Tryz
section
open Go.RowKit Go.Sort
structure But (S:Nat→Prop) (w w':World):Prop where
 os:w'.os=w.os
 tape:w'.tape=w.tape
 output:w'.output=w.output
 size:w.heap.size≤w'.heap.size
 block:∀k,k<w.heap.size→¬S k→w'.heap[k]? =w.heap[k]?
section
variable {S T:Nat→Prop} {w w' a b c:World}
theorem But.refl(S:Nat→Prop)(w:World):But S w w:=⟨rfl,rfl,rfl,Nat.le_refl _,fun _ _ _=>rfl⟩
theorem But.trans(h:But S a b)(k:But S b c):But S a c:=
 ⟨k.os.trans h.os,k.tape.trans h.tape,k.output.trans h.output,Nat.le_trans h.size k.size,fun i hi hs=>(k.block i (Nat.lt_of_lt_of_le hi h.size) hs).trans (h.block i hi hs)⟩
theorem But.trans'(h:But S a b)(k:But T b c)(hT:∀i,i<a.heap.size→T i→S i):But S a c:=
 ⟨k.os.trans h.os,k.tape.trans h.tape,k.output.trans h.output,Nat.le_trans h.size k.size,fun i hi hs=>(k.block i (Nat.lt_of_lt_of_le hi h.size) (fun t=>hs (hT i hi t))).trans (h.block i hi hs)⟩
theorem But.mono(h:But S a b)(hs:∀i,S i→T i):But T a b:=⟨h.os,h.tape,h.output,h.size,fun i hi hn=>h.block i hi (fun k=>hn (hs i k))⟩
theorem But.of_below(S:Nat→Prop)(h:Below w.heap.size w w'):But S w w':=⟨h.os,h.tape,h.output,h.size,fun k hk _=>h.block k hk⟩
theorem But.of_put{g:Nat}(h:Put g w w')(hs:S g):But S w w':=⟨h.os,h.tape,h.output,Nat.le_of_eq h.size.symm,fun k _ hn=>h.block k (fun e=>hn (e▸hs))⟩
theorem But.of_grown{g:Nat}(h:w.grownBy w' (some g))(hs:S g):But S w w':=⟨h.os,h.tape,h.output,h.size,fun k hk hn=>h.block k hk (fun e=>hn (by cases e;exact hs))⟩
theorem But.of_grown'{row:Option Nat}(h:w.grownBy w' row)(hs:∀g,row=some g→S g):But S w w':=⟨h.os,h.tape,h.output,h.size,fun k hk hn=>h.block k hk (fun e=>hn (hs k e.symm))⟩
theorem But.alloc(h:But S a b)(o:Obj):But S a (b.alloc o):=h.trans (But.of_below S ((Below.refl _ _).alloc (Nat.le_refl _) o))
theorem But.below{B:Nat}(h:But S w w')(hB:B≤w.heap.size)(hs:∀k,k<B→¬S k):Below B w w':=⟨h.os,h.tape,h.output,h.size,fun k hk=>h.block k (Nat.lt_of_lt_of_le hk hB) (hs k hk)⟩
theorem But.next{B:Nat}(hb:Below B a b)(h:But S b c)(hB:B≤b.heap.size)(hs:∀k,k<B→¬S k):Below B a c:=hb.trans (h.below hB hs)
end
namespace Lg
end Lg
end
section
open Go.RowKit Go.Sort
attribute [local go_sem] Oper.semAt_some
namespace T
def inHome(t:Nat)(f:Int):Bool:=decide (56*(t:Int)≤f)&&decide (f≤56*(t:Int)+7)
def side(c:Nat→Int)(f g:Int)(ca:Bool):Int:=
 if c 78≤1∧ca=true∧f≠g∧inHome (c 78).toNat f=true∧inHome (c 78).toNat g=true then(if f<g then 0 else 1)else-1
theorem ret_int{k:IntKind}{a b:Int}(h:b=a):Ending.returned (.int k a)=Ending.returned (.int k b):=by rw [h]
end T
theorem zhx(c:Nat→Int)(f g a b:Int)(t:Nat)(w:World)(ht:c 78=(t:Int))(ht2:t<2)(hf: -128≤f∧f≤127)(hg: -128≤g∧g≤127)(hfg:f≠g):
  cB 198 #[.agg (posC c),.agg #[.int .i8 f,.int .i8 g,.int .u8 a,.int .u8 b,.bool true]] w (.int .i64 (T.side c f g true)):=by
 have hb0:Below w.heap.size w ((w.alloc (.cells (posC c) 31)).alloc (.cells #[.int .i8 f,.int .i8 g,.int .u8 a,.int .u8 b,.bool true] 47)):=bA.alloc sp _
 have hp:=(PosAt.new w c).alloc (.cells #[.int .i8 f,.int .i8 g,.int .u8 a,.int .u8 b,.bool true] 47)
 have h78:=hp.cell (i:=78) dc
 rw [show pk 78= .u8 from rfl,ht]at h78
 have e1:(f==g)=false:=by simpa using hfg
 have hside:T.side c f g true=if T.inHome t f=true∧T.inHome t g=true then(if f<g then 0 else 1)else-1:=by
  unfold T.side
  rw [ht,Int.toNat_natCast]
  by_cases h:T.inHome t f=true∧T.inHome t g=true
  ·rw [if_pos h,if_pos ⟨by omega,rfl,hfg,h.1,h.2⟩]
  ·rw [if_neg h,if_neg (fun k=>h ⟨k.2.2.2.1,k.2.2.2.2⟩)]
 have Hs:=hid hside
 have hin:∀x:Int,T.inHome t x= !(decide (x-56*t<0)||decide (7<x-56*t)):=fun x=>by
  unfold T.inHome
  rw [Bool.eq_iff_iff]
  simp only [Bool.and_eq_true,Bool.not_eq_true',Bool.or_eq_false_iff,decide_eq_true_eq,decide_eq_false_iff_not]
  omega
 have Hin:=hid hin
 have hm:=RowAt.new (w.alloc (.cells (posC c) 31)) #[.int .i8 f,.int .i8 g,.int .u8 a,.int .u8 b,.bool true] 47
 have hm0:=(hm.alloc (.cells #[.int .i8 f,.int .i8 g] 26)).cell 0
 have hm1:=(hm.alloc (.cells #[.int .i8 f,.int .i8 g] 26)).cell 1
 have hl:=RowAt.new ((w.alloc (.cells (posC c) 31)).alloc (.cells #[.int .i8 f,.int .i8 g,.int .u8 a,.int .u8 b,.bool true] 47)) #[.int .i8 f,.int .i8 g] 26
 have hl0:=hl.cell 0
 have hl1:=hl.cell 1
 have hp3:=(hp.alloc (.cells #[.int .i8 f,.int .i8 g] 26)).cell (i:=78) dc
 rw [show pk 78= .u8 from rfl,ht]at hp3
 have hb3:=hb0.alloc (by simp;omega) (.cells #[.int .i8 f,.int .i8 g] 26)
 simp only [World.size_alloc]at hm0 hm1 hl0 hl1
 have H0:=hid (And.intro hm0 (And.intro hm1 (And.intro hl0 (And.intro hl1 (And.intro hp3 hb3)))))
 obtain⟨f0,f1⟩:=hf
 obtain⟨g0,g1⟩:=hg
 clear hm0 hm1 hl0 hl1 hp3 hb3 hin hside hm hl hfg
 have hwf:wrap64 f=f:=IntWalk.wrap64_in _ ⟨by omega,by omega⟩
 have hwg:wrap64 g=g:=IntWalk.wrap64_in _ ⟨by omega,by omega⟩
 have hwnf:wrap64 (f-56)=f-56:=IntWalk.wrap64_in _ ⟨by omega,by omega⟩
 have hwng:wrap64 (g-56)=g-56:=IntWalk.wrap64_in _ ⟨by omega,by omega⟩
 rcases(show t=0∨t=1 by omega)with rfl|rfl
 ·go_enter func198,ntmps198
  go_wp2
  clear hb0 hp h78
  go_loopw [29] (fun i wr=>∃n:Nat,n≤2∧i= .int .i64 (n:Int)∧(1≤n→T.inHome 0 f=true)∧(2≤n→T.inHome 0 g=true)∧wr.cell? ⟨w.heap.size+1,0,none⟩=some (.int .i8 f)∧wr.cell? ⟨w.heap.size+1,1,none⟩=some (.int .i8 g)∧wr.cell? ⟨w.heap.size+1+1,0,none⟩=some (.int .i8 f)∧wr.cell? ⟨w.heap.size+1+1,1,none⟩=some (.int .i8 g)∧wr.cell? ⟨w.heap.size,78,none⟩=some (.int .u8 0)∧Below w.heap.size w wr) (fun i _=>2-(intOf i).toNat)
  case atStart=>exact⟨0,by omega,rfl,by omega,by omega,H0.1,H0.2.1,H0.2.2.1,H0.2.2.2.1,H0.2.2.2.2.1,H0.2.2.2.2.2⟩
  case round=>
   obtain⟨n,hn,rfl,i1,i2,m0,m1,l0,l1,p78,hbr⟩:=hrel
   have I1:=hid i1
   have I2:=hid i2
   clear i1 i2
   rcases(show n=0∨n=1∨n=2 by omega)with rfl|rfl|rfl
   ·cases b1:decide (f<0)<;>cases b2:decide (7<f)
    all_goals
     go_wp2_with (first
      |(go_at_call 194;refine(zA 0 _ dc).mono ?_;rintro e u ⟨rfl,rfl⟩))
    ·exact⟨⟨1,by omega,by go_num,fun _=>by rw [Hin.out f];simp only [Bool.not_eq_true',Bool.or_eq_false_iff,decide_eq_false_iff_not]at b1 b2⊢;omega,by omega,m0,m1,l0,l1,p78,hbr⟩,by simp [intOf]⟩
    all_goals
     go_ret
     exact⟨T.ret_int (by rw [Hs.out,if_neg];rintro⟨h,_⟩;rw [Hin.out f]at h;simp only [Bool.not_eq_true',Bool.or_eq_false_iff,decide_eq_false_iff_not,decide_eq_true_eq]at b1 b2 h;omega),hbr⟩
   ·cases b1:decide (g<0)<;>cases b2:decide (7<g)
    all_goals
     go_wp2_with (first
      |(go_at_call 194;refine(zA 0 _ dc).mono ?_;rintro e u ⟨rfl,rfl⟩))
    ·exact⟨⟨2,by omega,by go_num,fun _=>I1 om,fun _=>by rw [Hin.out g];simp only [Bool.not_eq_true',Bool.or_eq_false_iff,decide_eq_false_iff_not]at b1 b2⊢;omega,m0,m1,l0,l1,p78,hbr⟩,by simp [intOf]⟩
    all_goals
     go_ret
     exact⟨T.ret_int (by rw [Hs.out,if_neg];rintro⟨_,h⟩;rw [Hin.out g]at h;simp only [Bool.not_eq_true',Bool.or_eq_false_iff,decide_eq_false_iff_not,decide_eq_true_eq]at b1 b2 h;omega),hbr⟩
   ·have Hb:=hid (show T.inHome 0 f=true∧T.inHome 0 g=true from⟨I1 om,I2 om⟩)
    cases hl:decide (f<g)
    ·go_wp2
     go_ret
     exact⟨T.ret_int (by rw [Hs.out,if_pos Hb.out,if_neg (of_decide_eq_false hl)]),hbr⟩
    ·go_wp2
     go_ret
     exact⟨T.ret_int (by rw [Hs.out,if_pos Hb.out,if_pos (of_decide_eq_true hl)]),hbr⟩
 ·go_enter func198,ntmps198
  go_wp2
  clear hb0 hp h78
  go_loopw [29] (fun i wr=>∃n:Nat,n≤2∧i= .int .i64 (n:Int)∧(1≤n→T.inHome 1 f=true)∧(2≤n→T.inHome 1 g=true)∧wr.cell? ⟨w.heap.size+1,0,none⟩=some (.int .i8 f)∧wr.cell? ⟨w.heap.size+1,1,none⟩=some (.int .i8 g)∧wr.cell? ⟨w.heap.size+1+1,0,none⟩=some (.int .i8 f)∧wr.cell? ⟨w.heap.size+1+1,1,none⟩=some (.int .i8 g)∧wr.cell? ⟨w.heap.size,78,none⟩=some (.int .u8 1)∧Below w.heap.size w wr) (fun i _=>2-(intOf i).toNat)
  case atStart=>exact⟨0,by omega,rfl,by omega,by omega,H0.1,H0.2.1,H0.2.2.1,H0.2.2.2.1,H0.2.2.2.2.1,H0.2.2.2.2.2⟩
  case round=>
   obtain⟨n,hn,rfl,i1,i2,m0,m1,l0,l1,p78,hbr⟩:=hrel
   have I1:=hid i1
   have I2:=hid i2
   clear i1 i2
   rcases(show n=0∨n=1∨n=2 by omega)with rfl|rfl|rfl
   ·cases b1:decide (f-56<0)<;>cases b2:decide (7<f-56)
    all_goals
     go_wp2_with (first
      |(go_at_call 194;refine(zA 1 _ dc).mono ?_;rintro e u ⟨rfl,rfl⟩))
    ·exact⟨⟨1,by omega,by go_num,fun _=>by rw [Hin.out f];simp only [Bool.not_eq_true',Bool.or_eq_false_iff,decide_eq_false_iff_not]at b1 b2⊢;omega,by omega,m0,m1,l0,l1,p78,hbr⟩,by simp [intOf]⟩
    all_goals
     go_ret
     exact⟨T.ret_int (by rw [Hs.out,if_neg];rintro⟨h,_⟩;rw [Hin.out f]at h;simp only [Bool.not_eq_true',Bool.or_eq_false_iff,decide_eq_false_iff_not,decide_eq_true_eq]at b1 b2 h;omega),hbr⟩
   ·cases b1:decide (g-56<0)<;>cases b2:decide (7<g-56)
    all_goals
     go_wp2_with (first
      |(go_at_call 194;refine(zA 1 _ dc).mono ?_;rintro e u ⟨rfl,rfl⟩))
    ·exact⟨⟨2,by omega,by go_num,fun _=>I1 om,fun _=>by rw [Hin.out g];simp only [Bool.not_eq_true',Bool.or_eq_false_iff,decide_eq_false_iff_not]at b1 b2⊢;omega,m0,m1,l0,l1,p78,hbr⟩,by simp [intOf]⟩
    all_goals
     go_ret
     exact⟨T.ret_int (by rw [Hs.out,if_neg];rintro⟨_,h⟩;rw [Hin.out g]at h;simp only [Bool.not_eq_true',Bool.or_eq_false_iff,decide_eq_false_iff_not,decide_eq_true_eq]at b1 b2 h;omega),hbr⟩
   ·have Hb:=hid (show T.inHome 1 f=true∧T.inHome 1 g=true from⟨I1 om,I2 om⟩)
    cases hl:decide (f<g)
    ·go_wp2
     go_ret
     exact⟨T.ret_int (by rw [Hs.out,if_pos Hb.out,if_neg (of_decide_eq_false hl)]),hbr⟩
    ·go_wp2
     go_ret
     exact⟨T.ret_int (by rw [Hs.out,if_pos Hb.out,if_pos (of_decide_eq_true hl)]),hbr⟩
theorem T.below_drewS{B:Nat}{a w:World}(h:Below B a w)(n:Nat):Below B a (w.drewN n):=⟨h.os,h.tape,h.output,h.size,h.block⟩
theorem T.side_out{c:Nat→Int}{f g:Int}{ca:Bool}(h:¬(c 78≤1∧ca=true∧f≠g)):T.side c f g ca= -1:=by
 unfold T.side
 rw [if_neg (fun k=>h ⟨k.1,k.2.1,k.2.2.1⟩)]
theorem zf2(c:Nat→Int)(f g a b:Int)(ca:Bool)(w:World)(hc:PosOk c)(hf: -128≤f∧f≤127)(hg: -128≤g∧g≤127):
  cB 198 #[.agg (posC c),.agg #[.int .i8 f,.int .i8 g,.int .u8 a,.int .u8 b,.bool ca]] w (.int .i64 (T.side c f g ca)):=by
 obtain⟨v0,v1⟩:=zp hc (i:=78) dc rfl
 by_cases hall:c 78≤1∧ca=true∧f≠g
 ·obtain⟨h1,rfl,h3⟩:=hall
  exact zhx c f g a b (c 78).toNat w om om hf hg h3
 ·have Hs:=hid (T.side_out hall)
  have hb0:Below w.heap.size w ((w.alloc (.cells (posC c) 31)).alloc (.cells #[.int .i8 f,.int .i8 g,.int .u8 a,.int .u8 b,.bool ca] 47)):=bA.alloc sp _
  have hp:=(PosAt.new w c).alloc (.cells #[.int .i8 f,.int .i8 g,.int .u8 a,.int .u8 b,.bool ca] 47)
  have h78:=hp.cell (i:=78) dc
  rw [show pk 78= .u8 from rfl]at h78
  generalize c 78=n at*
  cases e1:decide (1<n)
  ·have h1:n≤1:=by simpa using e1
   cases ca
   ·clear hall
    go_enter func198,ntmps198
    go_wp2
    go_ret
    exact⟨T.ret_int Hs,hb0⟩
   ·obtain rfl:f=g:=by
     have:=Decidable.em (f=g)
     rcases this with h|h
     ·exact h
     ·exact absurd ⟨h1,rfl,h⟩ hall
    clear hall
    go_enter func198,ntmps198
    go_wp2
    go_ret
    exact⟨T.ret_int Hs,hb0⟩
  ·clear hall
   go_enter func198,ntmps198
   go_wp2
   go_ret
   exact⟨T.ret_int Hs,hb0⟩
namespace T
def goalsV(c:Nat→Int)(s:Int):Value:=if s<0 then .tuple #[.int .i64 0,.int .i64 0,.bool false]else .tuple #[.int .i64 (56*c 78+(if s=0 then 6 else 2)),.int .i64 (56*c 78+(if s=0 then 5 else 3)),.bool true]
theorem side_cases(c:Nat→Int)(f g:Int)(ca:Bool):T.side c f g ca= -1∨(c 78≤1∧(T.side c f g ca=0∨T.side c f g ca=1)):=by
 unfold T.side
 by_cases h:c 78≤1∧ca=true∧f≠g∧inHome (c 78).toNat f=true∧inHome (c 78).toNat g=true
 ·rw [if_pos h]
  refine .inr ⟨h.1,?_⟩
  by_cases hl:f<g
  ·exact .inl (if_pos hl)
  ·exact .inr (if_neg hl)
 ·exact .inl (if_neg h)
end T
theorem zhl(c:Nat→Int)(f g a b:Int)(ca:Bool)(s:Int)(w:World)(hc:PosOk c)(hf: -128≤f∧f≤127)(hg: -128≤g∧g≤127)(h:T.side c f g ca=s):
  cB 198 #[.agg (posC c),.agg #[.int .i8 f,.int .i8 g,.int .u8 a,.int .u8 b,.bool ca]] w (.int .i64 s):=by
 rw [←h];exact zf2 c f g a b ca w hc hf hg
theorem size_MoveS:(prog.info? 47).map (·.size)=some 5:=by kernel_rfl
theorem zbU(c:Nat→Int)(f g a b:Int)(ca:Bool)(w:World)(hc:PosOk c)(hf: -128≤f∧f≤127)(hg: -128≤g∧g≤127):
  cB 124 #[.agg (posC c),.agg #[.int .i8 f,.int .i8 g,.int .u8 a,.int .u8 b,.bool ca]] w (T.goalsV c (T.side c f g ca)):=by
 obtain⟨v0,v1⟩:=zp hc (i:=78) dc rfl
 have hb0:Below w.heap.size w ((w.alloc (.cells (posC c) 31)).alloc (.cells #[.int .i8 f,.int .i8 g,.int .u8 a,.int .u8 b,.bool ca] 47)):=bA.alloc sp _
 have hp:=(PosAt.new w c).alloc (.cells #[.int .i8 f,.int .i8 g,.int .u8 a,.int .u8 b,.bool ca] 47)
 have hM:=RowAt.new (w.alloc (.cells (posC c) 31)) #[.int .i8 f,.int .i8 g,.int .u8 a,.int .u8 b,.bool ca] 47
 rw [World.size_alloc]at hM
 obtain⟨s,hs⟩:∃s,T.side c f g ca=s:=⟨_,rfl⟩
 have hcs:=T.side_cases c f g ca
 rw [hs]at hcs⊢
 have HS:=hid (fun W=>zhl c f g a b ca s W hc hf hg hs)
 clear hs
 rcases hcs with rfl|⟨h1,h2⟩
 ·go_enter func124,ntmps124
  go_wp2_with (first
   |((with_reducible refine ze rfl _ rfl ?_);refine⟨_,_,rfl,(by first|assumption|exact hp.alloc _),?_⟩)
   |((with_reducible refine zj rfl 47 _ rfl underlying47 rfl ?_);refine⟨_,_,_,rfl,(by first|assumption|exact hM.alloc _),size_MoveS,?_⟩)
   |(go_at_call 198;refine(HS _).mono ?_;rintro e u ⟨rfl,hb⟩;replace hp:=hp.below hb;replace hb0:=za hb0 hb;clear hb))
  go_ret3
  exact⟨rfl,hb0⟩
 ·have i0:∀w:World,(Instr.index 237 (.agg #[.int .i64 6,.int .i64 5,.int .i64 2,.int .i64 3]) (.int .i64 0)).run prog w= .ok (.agg #[.int .i64 6,.int .i64 5]) w:=fun _=>by kernel_rfl
  have i1:∀w:World,(Instr.index 237 (.agg #[.int .i64 6,.int .i64 5,.int .i64 2,.int .i64 3]) (.int .i64 1)).run prog w= .ok (.agg #[.int .i64 2,.int .i64 3]) w:=fun _=>by kernel_rfl
  have i2:∀w:World,(Instr.index 236 (.agg #[.int .i64 6,.int .i64 5]) (.int .i64 0)).run prog w= .ok (.int .i64 6) w:=fun _=>by kernel_rfl
  have i3:∀w:World,(Instr.index 236 (.agg #[.int .i64 6,.int .i64 5]) (.int .i64 1)).run prog w= .ok (.int .i64 5) w:=fun _=>by kernel_rfl
  have i4:∀w:World,(Instr.index 236 (.agg #[.int .i64 2,.int .i64 3]) (.int .i64 0)).run prog w= .ok (.int .i64 2) w:=fun _=>by kernel_rfl
  have i5:∀w:World,(Instr.index 236 (.agg #[.int .i64 2,.int .i64 3]) (.int .i64 1)).run prog w= .ok (.int .i64 3) w:=fun _=>by kernel_rfl
  rcases(show c 78=0∨c 78=1 by omega)with ht|ht<;>rcases h2 with rfl|rfl
  ·unfold T.goalsV
   rw [ht]
   go_enter func124,ntmps124
   go_wp2_with (first
    |((with_reducible refine ze rfl _ rfl ?_);refine⟨_,_,rfl,(by first|assumption|exact hp.alloc _),?_⟩)
    |((with_reducible refine zj rfl 47 _ rfl underlying47 rfl ?_);refine⟨_,_,_,rfl,(by first|assumption|exact hM.alloc _),size_MoveS,?_⟩)
    |(go_at_call 198;refine(HS _).mono ?_;rintro e u ⟨rfl,hb⟩;replace hp:=hp.below hb;replace hb0:=za hb0 hb;clear hb;have h78:=hp.cell (i:=78) dc;rw [show pk 78= .u8 from rfl,ht]at h78)
    |(go_at_call 199;refine(zam _).mono ?_;rintro e u ⟨rfl,hb⟩;replace hp:=hp.below hb;replace hb0:=za hb0 hb;clear hb;have h78:=hp.cell (i:=78) dc;rw [show pk 78= .u8 from rfl,ht]at h78)
    |(go_at_call 194;refine(zA 0 _ dc).mono ?_;rintro e u ⟨rfl,rfl⟩))
   have gu:=hb0.size
   have hG:=RowAt.new u #[.int .i64 6,.int .i64 5] 236
   have g0:=hG.cell 0
   have g1:=hG.cell 1
   simp only [List.getElem?_toArray,List.getElem?_cons_zero,List.getElem?_cons_succ]at g0 g1
   have hp4:=(hp.alloc (.cells #[.int .i64 6,.int .i64 5] 236)).cell (i:=78) dc
   rw [show pk 78= .u8 from rfl,ht]at hp4
   have lp:=hp.lt
   replace hb0:=hb0.alloc hb0.size (.cells #[.int .i64 6,.int .i64 5] 236)
   go_quiet (first|(go_at_call 194;exact zJ (zA 0 _ dc)))
   go_wp2
   go_ret3
   exact⟨rfl,T.below_drewS hb0 _⟩
  ·unfold T.goalsV
   rw [ht]
   go_enter func124,ntmps124
   go_wp2_with (first
    |((with_reducible refine ze rfl _ rfl ?_);refine⟨_,_,rfl,(by first|assumption|exact hp.alloc _),?_⟩)
    |((with_reducible refine zj rfl 47 _ rfl underlying47 rfl ?_);refine⟨_,_,_,rfl,(by first|assumption|exact hM.alloc _),size_MoveS,?_⟩)
    |(go_at_call 198;refine(HS _).mono ?_;rintro e u ⟨rfl,hb⟩;replace hp:=hp.below hb;replace hb0:=za hb0 hb;clear hb;have h78:=hp.cell (i:=78) dc;rw [show pk 78= .u8 from rfl,ht]at h78)
    |(go_at_call 199;refine(zam _).mono ?_;rintro e u ⟨rfl,hb⟩;replace hp:=hp.below hb;replace hb0:=za hb0 hb;clear hb;have h78:=hp.cell (i:=78) dc;rw [show pk 78= .u8 from rfl,ht]at h78)
    |(go_at_call 194;refine(zA 0 _ dc).mono ?_;rintro e u ⟨rfl,rfl⟩))
   have gu:=hb0.size
   have hG:=RowAt.new u #[.int .i64 2,.int .i64 3] 236
   have g0:=hG.cell 0
   have g1:=hG.cell 1
   simp only [List.getElem?_toArray,List.getElem?_cons_zero,List.getElem?_cons_succ]at g0 g1
   have hp4:=(hp.alloc (.cells #[.int .i64 2,.int .i64 3] 236)).cell (i:=78) dc
   rw [show pk 78= .u8 from rfl,ht]at hp4
   have lp:=hp.lt
   replace hb0:=hb0.alloc hb0.size (.cells #[.int .i64 2,.int .i64 3] 236)
   go_quiet (first|(go_at_call 194;exact zJ (zA 0 _ dc)))
   go_wp2
   go_ret3
   exact⟨rfl,T.below_drewS hb0 _⟩
  ·unfold T.goalsV
   rw [ht]
   go_enter func124,ntmps124
   go_wp2_with (first
    |((with_reducible refine ze rfl _ rfl ?_);refine⟨_,_,rfl,(by first|assumption|exact hp.alloc _),?_⟩)
    |((with_reducible refine zj rfl 47 _ rfl underlying47 rfl ?_);refine⟨_,_,_,rfl,(by first|assumption|exact hM.alloc _),size_MoveS,?_⟩)
    |(go_at_call 198;refine(HS _).mono ?_;rintro e u ⟨rfl,hb⟩;replace hp:=hp.below hb;replace hb0:=za hb0 hb;clear hb;have h78:=hp.cell (i:=78) dc;rw [show pk 78= .u8 from rfl,ht]at h78)
    |(go_at_call 199;refine(zam _).mono ?_;rintro e u ⟨rfl,hb⟩;replace hp:=hp.below hb;replace hb0:=za hb0 hb;clear hb;have h78:=hp.cell (i:=78) dc;rw [show pk 78= .u8 from rfl,ht]at h78)
    |(go_at_call 194;refine(zA 1 _ dc).mono ?_;rintro e u ⟨rfl,rfl⟩))
   have gu:=hb0.size
   have hG:=RowAt.new u #[.int .i64 6,.int .i64 5] 236
   have g0:=hG.cell 0
   have g1:=hG.cell 1
   simp only [List.getElem?_toArray,List.getElem?_cons_zero,List.getElem?_cons_succ]at g0 g1
   have hp4:=(hp.alloc (.cells #[.int .i64 6,.int .i64 5] 236)).cell (i:=78) dc
   rw [show pk 78= .u8 from rfl,ht]at hp4
   have lp:=hp.lt
   replace hb0:=hb0.alloc hb0.size (.cells #[.int .i64 6,.int .i64 5] 236)
   go_quiet (first|(go_at_call 194;exact zJ (zA 1 _ dc)))
   go_wp2
   go_ret3
   exact⟨rfl,T.below_drewS hb0 _⟩
  ·unfold T.goalsV
   rw [ht]
   go_enter func124,ntmps124
   go_wp2_with (first
    |((with_reducible refine ze rfl _ rfl ?_);refine⟨_,_,rfl,(by first|assumption|exact hp.alloc _),?_⟩)
    |((with_reducible refine zj rfl 47 _ rfl underlying47 rfl ?_);refine⟨_,_,_,rfl,(by first|assumption|exact hM.alloc _),size_MoveS,?_⟩)
    |(go_at_call 198;refine(HS _).mono ?_;rintro e u ⟨rfl,hb⟩;replace hp:=hp.below hb;replace hb0:=za hb0 hb;clear hb;have h78:=hp.cell (i:=78) dc;rw [show pk 78= .u8 from rfl,ht]at h78)
    |(go_at_call 199;refine(zam _).mono ?_;rintro e u ⟨rfl,hb⟩;replace hp:=hp.below hb;replace hb0:=za hb0 hb;clear hb;have h78:=hp.cell (i:=78) dc;rw [show pk 78= .u8 from rfl,ht]at h78)
    |(go_at_call 194;refine(zA 1 _ dc).mono ?_;rintro e u ⟨rfl,rfl⟩))
   have gu:=hb0.size
   have hG:=RowAt.new u #[.int .i64 2,.int .i64 3] 236
   have g0:=hG.cell 0
   have g1:=hG.cell 1
   simp only [List.getElem?_toArray,List.getElem?_cons_zero,List.getElem?_cons_succ]at g0 g1
   have hp4:=(hp.alloc (.cells #[.int .i64 2,.int .i64 3] 236)).cell (i:=78) dc
   rw [show pk 78= .u8 from rfl,ht]at hp4
   have lp:=hp.lt
   replace hb0:=hb0.alloc hb0.size (.cells #[.int .i64 2,.int .i64 3] 236)
   go_quiet (first|(go_at_call 194;exact zJ (zA 1 _ dc)))
   go_wp2
   go_ret3
   exact⟨rfl,T.below_drewS hb0 _⟩
theorem zaw(s Bm:Nat)(m:BitVec 64)(b:Bool)(W:World)(hs:s<64)(hM:W.cell? ⟨Bm,0,none⟩=some (.int .u64 (U m)))(hb:bit m s=b):
  cB 277 #[.int .i64 (s:Int),.pointer (some ⟨Bm,0,none⟩)] W (.bool (!b)):=by
 have hdiv:U m/2 ^ s=U (bShr m s):=by have:=zaC m s;rwa [Nat.min_eq_left om]at this
 have hsh:bit (bShr m s) 0=bit m s:=by rw [zgB,Nat.add_zero]
 have hq0:(bv1 (bit (bShr m s) 0)==0)= !b:=by rw [hsh,hb];cases b<;>rfl
 have hd1:decide ((s:Int)<0)=false:=by simp
 have hd2:decide (64≤(s:Int))=false:=by simp;omega
 have hl:=World.block_lt_of_cell? W _ hM
 simp only at hl
 clear hsh hb
 go_enter func277,ntmps277
 go_wp2
 go_ret
 exact⟨rfl,Below.refl _ _⟩
theorem zb1(s t Bp Bo Bq:Nat)(c q:Nat→Int)(o:BitVec 64)(W:World)(ht:t<2)(hct:c 78=(t:Int))(hq:BdOk q)(hT:Tb W)(hP:PosAt W Bp c)(hO:W.cell? ⟨Bo,0,none⟩=some (.int .u64 (U o)))(hQ:PosAt W Bq q):
  cB 278 #[.int .i64 (s:Int),.pointer (some ⟨Bp,0,none⟩),.pointer (some ⟨Bo,0,none⟩),.pointer (some ⟨Bq,0,none⟩)] W (.bool ((c 0==3&&U (bAnd (R.king (s:Int)) o) !=0)|| !K.on q s (1-(t:Int)))):=by
 have h0:=hP.cell (i:=0) dc
 have h78:=hP.cell (i:=78) dc
 rw [hct,show pk 78= .u8 from rfl]at h78
 rw [show pk 0= .u8 from rfl]at h0
 have lP:=hP.lt
 have lQ:=hQ.lt
 have lO:=World.block_lt_of_cell? W _ hO
 simp only at lO
 obtain⟨v3,hv3⟩:∃v3,(c 0==3)=v3:=⟨_,rfl⟩
 obtain⟨o1,ho1⟩:∃o1,(U (bAnd (R.king (s:Int)) o) !=0)=o1:=⟨_,rfl⟩
 obtain⟨bo,hbo⟩:∃bo,K.on q s (1-(t:Int))=bo:=⟨_,rfl⟩
 rw [hv3,ho1,hbo]
 clear hct
 rcases(show t=0∨t=1 by omega)with rfl|rfl<;>cases v3<;>cases o1
 all_goals
  go_enter func278,ntmps278
  go_wp2
  refine rB ?_
  repeat(first
   |go_big_quiet_step (first
    |(go_at_call 202;exact zd (zao _ _))
    |(go_at_call 142;exact zd (on_eq' q s _ bo _ hq (zaH hT) hbo)))
   |(go_big_quiet_want;refine zL _ rfl ⟨_,_,rfl,hQ,?_⟩;simp only [Act.put,sA,sB,sC];go_big_quiet_on))
  refine wpQuiet_nil ?_
  intro w3 hb3
  go_wp2
  go_ret
  exact⟨by cases bo<;>rfl,hb3⟩
end
section
open Go.RowKit
namespace N
def fst(c:Nat→Int)(k:Int)(d:Nat):BitVec 64:=bAnd (L.dir k d (S.all c)) (S.all c)
def lin(c:Nat→Int)(k:Int)(d:Nat):BitVec 64:=L.dir k d (bAndn (S.all c) (fst c k d))
def byS(c:Nat→Int)(k:Int)(d:Nat):BitVec 64:=bAndn (bAnd (lin c k d) (S.all c)) (fst c k d)
def goes(kind:Int)(d:Nat):Bool:=kind==5||(d % 2==0&&kind==4||d % 2==1&&kind==3)
def pinB(c:Nat→Int)(color k:Int)(d:Nat):Bool:=
 U (bAnd (fst c k d) (S.of c color 0)) !=0&&(U (byS c k d) !=0&&(U (bAnd (byS c k d) (S.of c color 0))==0&&goes (P.kind (c (1+(B.first (byS c k d)).toNat))) d))
def res(c:Nat→Int)(color k:Int)(d:Nat):Option (Int×Int×BitVec 64):=
 if pinB c color k d=true then some (B.first (fst c k d),B.first (byS c k d),lin c k d)else none
end N
end
section
open Go.RowKit Go.Sort
namespace N
def pinV(x:Int×Int×BitVec 64):List Value:=[.int .i64 x.1,.int .i64 x.2.1,.int .u64 (U x.2.2)]
def cells(l:List (Int×Int×BitVec 64)):List Value:=l.flatMap pinV
theorem cells_len(l:List (Int×Int×BitVec 64)):(cells l).length=l.length*3:=by
 unfold cells
 induction l with
 |nil=>rfl
 |cons a l ih=>rw [List.flatMap_cons,List.length_append,ih];simp [pinV];omega
theorem cells_snoc(l:List (Int×Int×BitVec 64))(x:Int×Int×BitVec 64):cells (l++[x])=cells l++pinV x:=by simp [cells]
theorem cells_at(l:List (Int×Int×BitVec 64))(i:Nat)(x:Int×Int×BitVec 64)(h:l[i]? =some x)(j:Nat)(v:Value)(hv:(pinV x)[j]? =some v):(cells l)[i*3+j]? =some v:=by
 induction l generalizing i with
 |nil=>cases h
 |cons a l ih=>
  unfold cells
  rw [List.flatMap_cons]
  cases i with
  |zero=>
   simp at h
   subst h
   have:j<(pinV a).length:=(List.getElem?_eq_some_iff.1 hv).1
   rw [List.getElem?_append_left om,Nat.zero_mul,Nat.zero_add,hv]
  |succ i=>
   rw [List.getElem?_append_right (by simp [pinV];omega),show(i+1)*3+j-(pinV a).length=i*3+j by simp [pinV];omega]
   exact ih i (by simpa using h)
def upTo(c:Nat→Int)(color k:Int)(n:Nat):List (Int×Int×BitVec 64):=(List.range n).filterMap (res c color k)
theorem upTo_succ(c:Nat→Int)(color k:Int)(n:Nat):upTo c color k (n+1)=upTo c color k n++(match res c color k n with|some x=>[x]|none=>[]):=by
 unfold upTo
 rw [List.range_succ,List.filterMap_append]
 congr 1
 cases h:res c color k n<;>simp [h]
theorem upTo_len(c:Nat→Int)(color k:Int)(n:Nat):(upTo c color k n).length≤n:=by
 have:=List.length_filterMap_le (res c color k) (List.range n)
 simpa [upTo]using this
def pins(c:Nat→Int)(color:Int):List (Int×Int×BitVec 64):=if color≤1∧0≤S.find c color 6 then upTo c color (S.find c color 6) 8 else []
def End(T:TypeId)(l:List (Int×Int×BitVec 64))(w:World)(e:Ending)(w':World):Prop:=∃v,e= .returned v∧w'.ownsRow (w.heap.size+1) T 3 v l.length (cells l)∧Below w.heap.size w w'
end N
namespace N
def men(l:List (Int×Int×BitVec 64)):BitVec 64:=l.foldl (fun b x=>bOr b (B.one x.1)) 0#64
end N
namespace N
def at'(l:List (Int×Int×BitVec 64))(s:Int):Option (Int×Int×BitVec 64):=l.find? fun x=>x.1==s
def no:Int×Int×BitVec 64:=(0,0,0#64)
def on(c:Nat→Int)(s:Int):Option (Int×Int×BitVec 64):=(at' (pins c 0) s).or (at' (pins c 1) s)
def noneTo(l:List (Int×Int×BitVec 64))(s:Int)(n:Nat):Prop:=∀x∈l.take n,(x.1==s)=false
theorem noneTo_succ{l:List (Int×Int×BitVec 64)}{s:Int}{n:Nat}{x:Int×Int×BitVec 64}(h:noneTo l s n)(hx:l[n]? =some x)(hn:(x.1==s)=false):noneTo l s (n+1):=fun y hy=>by
 rw [List.take_add_one,hx]at hy
 rcases List.mem_append.1 hy with h1|h1
 ·exact h y h1
 ·simp at h1;rw [h1];exact hn
end N
theorem results_cell_tmp{P:Program}{fn:Func}{p q:Tmp}{ty:TypeId}(h:fn.results= #[.cell p ty,.tmp q])(tmps:Array Value)(w:World)(g:Nat)(t:TypeId)(cs:Array Value)(d:TypeDesc)(v:Value)
  (hp:tmps.getD p undef= .pointer (some ⟨g,0,none⟩)) (hv:tmps.getD q undef=v) (hg:RowAt w g t cs)
  (hu:P.underlying ty=some d) (hd:(match d with| .struct _| .array _ _=>true|_=>false)=true) (hi:(P.info? ty).map (·.size)=some cs.size):
  (results fn tmps).run P w= .ok (.tuple #[.agg cs,v]) w:=by
 have hp':tmps[p]?.getD undef= .pointer (some ⟨g,0,none⟩):=by simpa using hp
 have hv':tmps[q]?.getD undef=v:=by simpa using hv
 simp [results,h,hp',hv',asAddr,run_loadVar_row w g t ty cs (0,0) d hg.heap hu hd hi]
def N.done(c:Nat→Int)(s:Int)(k:Nat):Prop:=∀j:Nat,j<k→N.at' (N.pins c (j:Int)) s=none
end
section
open Go.RowKit Go.Sort
attribute [local go_sem] Oper.semAt_some

end
section
open Go.RowKit Go.Sort
namespace C
def cnt(x:Nat):Nat→Nat
 |0=>0
 |n+1=>cnt x n+(if x.testBit n then 1 else 0)
theorem zbv(a b m n:Nat)(ha:a<256)(hm:m<256):(a+256*b)&&&(m+256*n)=(a&&&m)+256*(b&&&n):=by
 apply Nat.eq_of_testBit_eq
 intro i
 have e1:∀u v:Nat,u<256→(u+256*v).testBit i=if i<8 then u.testBit i else v.testBit (i-8):=fun u v hu=>by
  have:=Nat.testBit_two_pow_mul_add v (i:=8) (b:=u) (by simpa using hu) i
  rw [show u+256*v=2 ^ 8*v+u by omega]
  exact this
 have hand:(a&&&m)<256:=Nat.lt_of_le_of_lt Nat.and_le_left ha
 rw [Nat.testBit_and,e1 a b ha,e1 m n hm,e1 _ _ hand]
 split<;>rw [Nat.testBit_and]
def m1:Nat→Nat
 |0=>0
 |n+1=>85+256*m1 n
def m2:Nat→Nat
 |0=>0
 |n+1=>51+256*m2 n
def m4:Nat→Nat
 |0=>0
 |n+1=>15+256*m4 n
def s1(x n:Nat):Nat:=((x/2)&&&m1 n)+(x&&&m1 n)
def s2(x n:Nat):Nat:=((x/4)&&&m2 n)+(x&&&m2 n)
def s4(x n:Nat):Nat:=(x/16+x)&&&m4 n
def join(f:Nat→Nat)(x:Nat):Nat→Nat
 |0=>0
 |n+1=>f (x % 256)+256*join f (x/256) n
def b1(a:Nat):Nat:=((a/2)&&&85)+(a&&&85)
def b2(a:Nat):Nat:=((a/4)&&&51)+(a&&&51)
def b4(a:Nat):Nat:=(a/16+a)&&&15
theorem t1:∀(a:Fin 256) (b:Fin 2),((a.val/2+128*b.val)&&&85)=((a.val/2)&&&85):=by decide+kernel
theorem t2:∀(a:Fin 256) (b:Fin 4),((a.val/4+64*b.val)&&&51)=((a.val/4)&&&51):=by decide+kernel
theorem t4:∀(a:Fin 69) (b:Fin 5),((a.val/16+16*b.val+a.val)&&&15)=((a.val/16+a.val)&&&15):=by decide+kernel
theorem zg9:∀n x,s1 x n=join b1 x n
 |0,x=>by simp [s1,m1,join]
 |n+1,x=>by
  have ih:=zg9 n (x/256)
  have h1:=t1 ⟨x % 256,by omega⟩ ⟨(x/256) % 2,by omega⟩
  simp only at h1
  unfold s1 at*
  rw [m1,join,←ih]
  have e1:=zbv (x % 256) (x/256) 85 (m1 n) om dc
  rw [show x % 256+256*(x/256)=x by omega]at e1
  have e2:x/2=(x % 256/2+128*((x/256) % 2))+256*(x/256/2):=by omega
  rw [e2,zbv _ _ _ _ om dc,h1,e1]
  unfold b1
  omega
theorem zgi:∀n x,s2 x n=join b2 x n
 |0,x=>by simp [s2,m2,join]
 |n+1,x=>by
  have ih:=zgi n (x/256)
  have h1:=t2 ⟨x % 256,by omega⟩ ⟨(x/256) % 4,by omega⟩
  simp only at h1
  unfold s2 at*
  rw [m2,join,←ih]
  have e1:=zbv (x % 256) (x/256) 51 (m2 n) om dc
  rw [show x % 256+256*(x/256)=x by omega]at e1
  have e2:x/4=(x % 256/4+64*((x/256) % 4))+256*(x/256/4):=by omega
  rw [e2,zbv _ _ _ _ om dc,h1,e1]
  unfold b2
  omega
theorem zge(f:Nat→Nat)(hf:∀a,a<256→f a<256)(x n:Nat):join f x (n+1) % 256=f (x % 256)∧join f x (n+1)/256=join f (x/256) n:=by
 have:=hf (x % 256) om
 rw [join]
 omega
theorem zdc(f g:Nat→Nat)(hf:∀a,a<256→f a<256):∀n x,join g (join f x n) n=join (fun a=>g (f a)) x n
 |0,_=>rfl
 |n+1,x=>by
  obtain⟨h1,h2⟩:=zge f hf x n
  rw [join,h1,h2,zdc f g hf n,join]
theorem b1_lt:∀a:Fin 256,b1 a.val<256:=by decide+kernel
theorem zh5:∀a:Fin 256,b2 (b1 a.val)<256∧b2 (b1 a.val) % 16≤4∧b2 (b1 a.val)/16≤4:=by decide+kernel
theorem zfD(f:Nat→Nat)(hf:∀a,a<256→f a % 16≤4∧f a/16≤4):∀n x,s4 (join f x n) n=join (fun a=>b4 (f a)) x n
 |0,x=>by simp [s4,m4,join]
 |n+1,x=>by
  have ih:=zfD f hf n (x/256)
  have h0:=hf (x % 256) om
  have hlow:join f (x/256) n % 16≤4:=by
   cases n with
   |zero=>simp [join]
   |succ n=>
    have:=hf (x/256 % 256) om
    rw [join];omega
  have h1:=t4 ⟨f (x % 256),by omega⟩ ⟨join f (x/256) n % 16,by omega⟩
  simp only at h1
  unfold s4 at*
  rw [m4,join,join,←ih]
  generalize join f (x/256) n=y at*
  generalize f (x % 256)=a at*
  have e2:(a+256*y)/16+(a+256*y)=(a/16+16*(y % 16)+a)+256*(y/16+y):=by omega
  rw [e2,zbv _ _ _ _ om dc,h1]
  rfl
def p8(a:Nat):Nat:=b4 (b2 (b1 a))
theorem zh7:∀a:Fin 256,p8 a.val=cnt a.val 8∧p8 a.val≤8:=by decide+kernel
theorem zeM(x:Nat):∀k,cnt x (8+k)=cnt (x % 256) 8+cnt (x/256) k
 |0=>by
  have:∀n,n≤8→cnt x n=cnt (x % 256) n:=fun n=>by
   induction n with
   |zero=>intro _;rfl
   |succ n ih=>
    intro hn
    rw [cnt,cnt,ih om]
    have:(x % 256).testBit n=x.testBit n:=by
     have:=Nat.testBit_mod_two_pow x 8 n
     rw [show(2:Nat) ^ 8=256 from rfl]at this
     rw [this,decide_eq_true om,Bool.true_and]
    rw [this]
  rw [Nat.add_zero,this 8 om];rfl
 |k+1=>by
  have e3:cnt (x/256) (k+1)=cnt (x/256) k+(if(x/256).testBit k then 1 else 0):=rfl
  have e4:cnt x (8+(k+1))=cnt x (8+k)+(if x.testBit (8+k)then 1 else 0):=rfl
  rw [e4,zeM x k,e3]
  have:(x/256).testBit k=x.testBit (8+k):=by
   have:=Nat.testBit_div_two_pow (n:=8) x (i:=k)
   rw [show(2:Nat) ^ 8=256 from rfl]at this
   rw [this,Nat.add_comm]
  rw [this]
  omega
theorem zfR(f:Nat→Nat)(hf:∀a,a<256→f a<256):∀n x,join f x n<256 ^ n
 |0,_=>by simp [join]
 |n+1,x=>by
  have h1:=zfR f hf n (x/256)
  have h2:=hf (x % 256) om
  rw [join,Nat.pow_succ]
  omega
theorem zgD(f:Nat→Nat)(B:Nat)(hf:∀a,a<256→f a≤B):∀n x,255*join f x n+B≤B*256 ^ n
 |0,_=>by simp [join]
 |n+1,x=>by
  have h1:=zgD f B hf n (x/256)
  have h2:=hf (x % 256) om
  rw [join,Nat.pow_succ,←Nat.mul_assoc]
  omega
def sumB(x:Nat):Nat→Nat
 |0=>0
 |n+1=>p8 (x % 256)+sumB (x/256) n
theorem zf0:∀n x,cnt x (8*n)=sumB x n
 |0,_=>rfl
 |n+1,x=>by
  rw [show 8*(n+1)=8+8*n by omega,zeM,zf0 n,sumB,(zh7 ⟨x % 256,by omega⟩).1]
def y1(x:Nat):Nat:=s1 x 8
def y2(x:Nat):Nat:=s2 (y1 x) 8
def y3(x:Nat):Nat:=s4 (y2 x) 8
def y4(x:Nat):Nat:=y3 x+y3 x/256
def y5(x:Nat):Nat:=y4 x+y4 x/65536
def y6(x:Nat):Nat:=y5 x+y5 x/4294967296
theorem zgw(x:Nat):y1 x=join b1 x 8:=zg9 8 x
theorem y1_lt(x:Nat):y1 x<18446744073709551616:=by
 rw [zgw];exact zfR b1 (fun a ha=>b1_lt ⟨a,ha⟩) 8 x
theorem zfB(x:Nat):y2 x=join (fun a=>b2 (b1 a)) x 8:=by
 unfold y2;rw [zgw,zgi,zdc b1 b2 (fun a ha=>b1_lt ⟨a,ha⟩)]
theorem y2_le(x:Nat):255*y2 x+68≤68*18446744073709551616:=by
 rw [zfB]
 exact zgD _ 68 (fun a ha=>by have:=zh5 ⟨a,ha⟩;simp only at this;omega) 8 x
theorem ziz(x:Nat):y3 x=join p8 x 8:=by
 unfold y3;rw [zfB,zfD _ (fun a ha=>(zh5 ⟨a,ha⟩).2)];rfl
theorem dv(p q r:Nat)(h:p<q):(p+q*r)/q=r:=by
 rw [Nat.add_mul_div_left _ _ om,Nat.div_eq_of_lt h,Nat.zero_add]
theorem fin1(p0 r:Nat)(h0:p0≤8):(p0+256*r)/256=r:=dv p0 256 r om
theorem fin2(u v r:Nat)(h0:u≤16)(h1:v≤16):(u+256*v+65536*r)/65536=r:=dv _ 65536 r om
theorem fin3(u v s t r:Nat)(h0:u≤32)(h1:v≤32)(h2:s≤32)(h3:t≤32):(u+256*v+65536*s+16777216*t+4294967296*r)/4294967296=r:=dv _ 4294967296 r om
theorem reg1(p0 p1 p2 p3 p4 p5 p6 p7:Nat):p0+256*(p1+256*(p2+256*(p3+256*(p4+256*(p5+256*(p6+256*(p7+256*0)))))))+(p1+256*(p2+256*(p3+256*(p4+256*(p5+256*(p6+256*(p7+256*0)))))))=
 (p0+p1)+256*(p1+p2)+65536*((p2+p3)+256*(p3+p4)+65536*((p4+p5)+256*(p5+p6)+65536*((p6+p7)+256*p7))):=by omega
theorem reg2(a b c d e f g h:Nat):a+256*b+65536*(c+256*d+65536*(e+256*f+65536*(g+256*h)))+(c+256*d+65536*(e+256*f+65536*(g+256*h)))=
 (a+c)+256*(b+d)+65536*(c+e)+16777216*(d+f)+4294967296*((e+g)+256*(f+h)+65536*g+16777216*h):=by omega
theorem reg3(a b c d r:Nat)(ha:a≤32)(_hb:b≤32)(_hc:c≤32)(_hd:d≤32)(u v s t:Nat)(hu:u≤32)(_hv:v≤32)(_hs:s≤32)(_ht:t≤32)(hr:r=u+256*v+65536*s+16777216*t):
 (a+256*b+65536*c+16777216*d+4294967296*r+r) % 128=a+u:=by omega
theorem fin(p0 p1 p2 p3 p4 p5 p6 p7:Nat)(q0:p0≤8)(q1:p1≤8)(q2:p2≤8)(q3:p3≤8)(q4:p4≤8)(q5:p5≤8)(q6:p6≤8)(q7:p7≤8)(a b c d:Nat)
  (ha:a=p0+256*(p1+256*(p2+256*(p3+256*(p4+256*(p5+256*(p6+256*(p7+256*0)))))))) (hb:b=a+a/256) (hc:c=b+b/65536) (hd:d=c+c/4294967296):
  d % 128=p0+(p1+(p2+(p3+(p4+(p5+(p6+(p7+0)))))))∧b<18446744073709551616∧c<18446744073709551616∧d<9223372036854775808:=by
 have h4:b=(p0+p1)+256*(p1+p2)+65536*((p2+p3)+256*(p3+p4)+65536*((p4+p5)+256*(p5+p6)+65536*((p6+p7)+256*p7))):=by
  rw [hb,ha,fin1 _ _ q0,reg1]
 clear ha hb
 have h5:c=(p0+p1+(p2+p3))+256*(p1+p2+(p3+p4))+65536*(p2+p3+(p4+p5))+16777216*(p3+p4+(p5+p6))+4294967296*((p4+p5+(p6+p7))+256*(p5+p6+p7)+65536*(p6+p7)+16777216*p7):=by
  rw [hc,h4,fin2 _ _ _ om om,reg2]
 clear hc
 have h6:d=(p0+p1+(p2+p3))+256*(p1+p2+(p3+p4))+65536*(p2+p3+(p4+p5))+16777216*(p3+p4+(p5+p6))+4294967296*((p4+p5+(p6+p7))+256*(p5+p6+p7)+65536*(p6+p7)+16777216*p7)+((p4+p5+(p6+p7))+256*(p5+p6+p7)+65536*(p6+p7)+16777216*p7):=by
  rw [hd,h5,fin3 _ _ _ _ _ om om om om]
 clear hd
 refine⟨?_,?_,?_,?_⟩
 ·rw [h6,reg3 _ _ _ _ _ om om om om _ _ _ _ om om om om rfl]
  omega
 ·rw [h4];clear h4 h5 h6;omega
 ·rw [h5];clear h4 h5 h6;omega
 ·rw [h6];clear h4 h5 h6;omega
def pb(x:Nat):Nat:=p8 (x % 256)
theorem pb_le(x:Nat):pb x≤8:=(zh7 ⟨x % 256,by omega⟩).2
theorem za2(x n:Nat):join p8 x (n+1)=pb x+256*join p8 (x/256) n:=rfl
theorem zbW(x n:Nat):sumB x (n+1)=pb x+sumB (x/256) n:=rfl
theorem join_8(x0 x1 x2 x3 x4 x5 x6 x7:Nat)(h1:x1=x0/256)(h2:x2=x1/256)(h3:x3=x2/256)(h4:x4=x3/256)(h5:x5=x4/256)(h6:x6=x5/256)(h7:x7=x6/256):
  join p8 x0 8=pb x0+256*(pb x1+256*(pb x2+256*(pb x3+256*(pb x4+256*(pb x5+256*(pb x6+256*(pb x7+256*0)))))))∧
  sumB x0 8=pb x0+(pb x1+(pb x2+(pb x3+(pb x4+(pb x5+(pb x6+(pb x7+0))))))):=by
 constructor
 ·rw [za2 x0 7,←h1,za2 x1 6,←h2,za2 x2 5,←h3,za2 x3 4,←h4,za2 x4 3,←h5,za2 x5 2,←h6,za2 x6 1,←h7,za2 x7 0,join]
 ·rw [zbW x0 7,←h1,zbW x1 6,←h2,zbW x2 5,←h3,zbW x3 4,←h4,zbW x4 3,←h5,zbW x5 2,←h6,zbW x6 1,←h7,zbW x7 0,sumB]
theorem y_all(x:Nat):y6 x % 128=cnt x 64∧y4 x<18446744073709551616∧y5 x<18446744073709551616∧y6 x<9223372036854775808:=by
 obtain⟨x1,h1⟩:∃x1,x1=x/256:=⟨_,rfl⟩
 obtain⟨x2,h2⟩:∃x2,x2=x1/256:=⟨_,rfl⟩
 obtain⟨x3,h3⟩:∃x3,x3=x2/256:=⟨_,rfl⟩
 obtain⟨x4,h4⟩:∃x4,x4=x3/256:=⟨_,rfl⟩
 obtain⟨x5,h5⟩:∃x5,x5=x4/256:=⟨_,rfl⟩
 obtain⟨x6,h6⟩:∃x6,x6=x5/256:=⟨_,rfl⟩
 obtain⟨x7,h7⟩:∃x7,x7=x6/256:=⟨_,rfl⟩
 obtain⟨hj,hs⟩:=join_8 x x1 x2 x3 x4 x5 x6 x7 h1 h2 h3 h4 h5 h6 h7
 have hf:=fin _ _ _ _ _ _ _ _ (pb_le x) (pb_le x1) (pb_le x2) (pb_le x3) (pb_le x4) (pb_le x5) (pb_le x6) (pb_le x7) (y3 x) (y4 x) (y5 x) (y6 x) ((ziz x).trans hj) rfl rfl rfl
 refine⟨?_,hf.2⟩
 rw [hf.1,←hs]
 exact(zf0 8 x).symm
end C
end
end Go.Proofs.YtbakeajgolhkgaaGreatDoor
