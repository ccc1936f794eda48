import Derived.Test.YtbakeajgolhkgaaGreatDoorYbj
import Derived.Test.YtbakeajgolhkgaaGreatDoorYbk
import Derived.Test.YtbakeajgolhkgaaGreatDoorZl
set_option maxRecDepth 100000
set_option maxHeartbeats 8000000
open Go.Lib (hid)
namespace Go.Proofs.YtbakeajgolhkgaaGreatDoor
open Go.Proofs.Tryz
section
open Go.RowKit Go.Sort
theorem Sk.exec_ixs{ev:Operand→Value}{o:Oper}(x y:Operand){b n cap m:Nat}(ho:o.op= .indexAddr 92 x y)(hx:ev x= .slice (some ⟨b,0,none⟩) n cap)(hy:ev y= .int .i64 (m:Int))(w:World)(hm:m<n):(execOp ev o).run prog w= .ok (.value (.pointer (some ⟨b,m*7,none⟩))) w:=by
 unfold execOp
 simp only [ho,hx,hy]
 have e1:(0:Int)≤(m:Int):=by omega
 have e2:(m:Int)<(n:Int):=by omega
 simp [go_sem,e1,e2]
theorem Sk.load_fn(p:Addr)(v:Value)(w:World)(h:w.cell? p=some v):(loadVar 95 p).run prog w= .ok v w:=by
 simp [go_sem,h]
theorem Sk.exec_ldf{ev:Operand→Value}{o:Oper}{p:Addr}{v:Value}{w:World}(x:Operand)(ho:o.op= .load 95 x)(hx:ev x= .pointer (some p))(h:w.cell? p=some v):(execOp ev o).run prog w= .ok (.value v) w:=by
 unfold execOp
 simp only [ho,hx,Instr.loadAt,Instr.sureAddr,Sem.run_bind,Sem.run_pure,Result.andThen_ok,Sk.load_fn _ _ _ h]
theorem Sk.own_cut{w:World}{base b m cap:Nat}{s:Sk.St}(h:w.ownsRow base 97 7 (.slice (some ⟨b,0,none⟩) (m+1) cap) (m+1) (Sk.stepsC s (m+1))):w.ownsRow base 97 7 (.slice (some ⟨b,0,none⟩) m cap) m (Sk.stepsC s m):=by
 rcases h.2 with⟨e,_⟩|⟨g,cap',cur,e1,hb,hg,hnc,hcm,hcs,htake⟩
 ·cases e
 ·injection e1 with e1 _ e3
  injection e1 with e1
  injection e1 with e1 _ _
  subst e1 e3
  refine⟨Sk.stepsC_len s m,.inr ⟨b,cap,cur,rfl,hb,hg,by omega,hcm,hcs,?_⟩⟩
  have:=congrArg (fun l=>l.take (m*7)) htake
  rw [List.take_take,Nat.min_eq_left om,Sk.stepsC_succ,List.take_append_of_le_length (by rw [Sk.stepsC_len];exact Nat.le_refl _)]at this
  exact this.trans (List.take_of_length_le (by rw [Sk.stepsC_len];exact Nat.le_refl _))
theorem Sk.unmake_end{base g m b cap:Nat}{w W3 W4:World}{s:Sk.St}{ky:BitVec 64}(h:Sk.At base w g s (m+1))(hky:H.key (s.pos 0)=ky)(hown:w.ownsRow base 97 7 (.slice (some ⟨b,0,none⟩) (m+1) cap) (m+1) (Sk.stepsC s (m+1)))
  (hw:Sk.Kg base w W3) (hW:∀k,k≠g→k<w.heap.size→W3.heap[k]? =w.heap[k]?) (hr:RowAt W3 g 94 (Sk.gameC (s.pos m) ky (.slice (some ⟨b,0,none⟩) (m+1) cap))) (hP:Put g W3 W4) (h4:RowAt W4 g 94 ((Sk.gameC (s.pos m) ky (.slice (some ⟨b,0,none⟩) (m+1) cap)).setIfInBounds 90 (.slice (some ⟨b,0,none⟩) m cap))):
  Sk.At base W4 g s m∧Sk.Kg base w W4:=by
 have hk2:Sk.Kg base W3 W4:=But.of_put hP ⟨h.lt,_,_,_,hr.heap,.inl rfl⟩
 have hk:=hw.trans hk2
 obtain⟨v,hG,_⟩:=h.open'
 have hne:b≠g:=Sk.own_ne hown hG.row dc b rfl
 have hbl:=(hown.lt b rfl).2
 refine⟨⟨h.lt,fun i hi=>h.ok i om,fun i hi=>((h.foot i om).kg hk).1,fun i hi=>(h.undo i om).same ((h.foot i om).kg hk).2,.slice (some ⟨b,0,none⟩) m cap,?_,?_⟩,hk⟩
 ·rw [hky,h4.heap,Sk.gameC_set]
 ·exact zbE (Sk.own_cut hown) (fun k hkk=>by cases hkk;exact(hP.block b hne).trans (hW b hne hbl))
def Sk.UnmakeEnd(base g:Nat)(s:Sk.St)(n:Nat)(w:World)(e:Ending)(w':World):Prop:=
 match n with
 |0=>e= .returned (.int .i64 200)∧Below w.heap.size w w'
 |m+1=>e= .returned (.int .i64 0)∧Sk.At base w' g s m∧Sk.Kg base w w'
theorem zcj(base:Nat)(w:World)(g:Nat)(s:Sk.St)(n:Nat)(h:Sk.At base w g s n)(hN:n≤1100):Calls prog 14 #[.pointer (some ⟨g,0,none⟩)] w (Sk.UnmakeEnd base g s n w):=by
 obtain⟨v,hG,hown⟩:=h.open'
 obtain⟨ao,cap,rfl⟩:=Sk.own_slice hown
 have c0:=hG.made
 have c90:=hG.steps
 cases n with
 |zero=>
  clear h hG hown hN
  go_enter func14,ntmps14
  go_wp2_with (go_at_call 45;refine(zat g _ c0).mono ?_;rintro e w' ⟨rfl,rfl⟩)
  go_ret
  exact⟨rfl,Below.refl _ _⟩
 |succ m=>
  obtain⟨b,rfl,hc⟩:=Sk.own_cells hown om
  have hcap:=Sk.own_cap hown
  have Hf:=hid (show w.cell? ⟨b,m*7+6,none⟩=some (Sk.undoV (s.lb m))from hc _ _ ((Sk.stepsC_get s (Nat.lt_succ_self m) (by decide:6<7)).trans rfl))
  obtain⟨ky,hky⟩:∃k,H.key (s.pos 0)=k:=⟨_,rfl⟩
  rw [hky]at hG
  have HU:Hid (∀W:World,(∀k:Nat,W.heap[k]? =w.heap[k]?)→W.heap.size=w.heap.size→Calls prog 112 #[.pointer (some ⟨g,1,none⟩),.pointer (some ⟨s.lb m,0,none⟩)] W fun e W'=>∃x,e= .returned x∧(W'.heap[g]? =some (.cells (Sk.gameC (s.pos m) ky (.slice (some ⟨b,0,none⟩) (m+1) cap)) 94 (0,0))∧W.grownBy W' (some g))):=hid (fun W hW hs=>by
   refine(h.undo m om W g 1 (Sk.gameC (s.pos (m+1)) ky (.slice (some ⟨b,0,none⟩) (m+1) cap)) 94 ⟨Nat.le_of_eq hs.symm,fun b _=>hW b⟩ (fun hF=>(h.foot m om g hF).2 ⟨h.lt,_,_,_,hG.heap,.inl rfl⟩) ((hW g).trans hG.heap) (by rw [Sk.gameC_size];omega) (fun i hi=>(Sk.gameC_pos _ _ _ i hi).trans (zE _ i hi).symm)).mono ?_
   rintro e W' ⟨⟨x,rfl⟩,h1,h2⟩
   exact⟨x,rfl,by rw [h1,show Lg.setSeg (Sk.gameC (s.pos (m+1)) ky (.slice (some ⟨b,0,none⟩) (m+1) cap)) 1 (posC (s.pos m)).toList=_ from Sk.gameC_in _ _ _ _],h2⟩)
  have Hat:=hid h
  have Hown:=hid hown
  have HG:=hid hG
  have Hky:=hid hky
  have hm:m<2000:=by omega
  obtain⟨lb,hlb⟩:∃x,s.lb m=x:=⟨_,rfl⟩
  rw [hlb]at Hf HU
  clear h hG hown hN hc hky hlb
  go_enter func14,ntmps14
  go_upto_region 6 with(go_at_call 45;refine(zat g _ c0).mono ?_;rintro e w' ⟨rfl,rfl⟩)
  refine wp_region_held (S:=fun _=>True) kr ?_
  have hS:True:=trivial
  show wpAnyH _ _ _ _ _ _ _ _ w.drew
  refine tq 0 20 (.pointer (some ⟨g,0,none⟩)) hS ?_
  refine tq 1 21 (.pointer (some ⟨g,0,none⟩)) hS ?_
  refine tq 2 22 (.pointer (some ⟨g,90,none⟩)) hS ?_
  refine tq 4 24 (.int .i64 (m:Int)) hS ?_
  refine tq 8 28 (.pointer (some ⟨g,0,none⟩)) hS ?_
  refine tq 9 29 (.pointer (some ⟨g,0,none⟩)) hS ?_
  refine tq 10 30 (.pointer (some ⟨g,1,none⟩)) hS ?_
  refine wpAnyH_all (rs:=[3]) kr sp (fun j hj=> ?_)
  obtain rfl:j=3:=by simpa using hj
  clear hj
  refine zz 3 (some 23) (.slice (some ⟨b,0,none⟩) (m+1) cap) w.drew kr kr kr (Sk.exec_ld (.tmp 22) kr kr (show w.drew.cell? ⟨g,90,none⟩=_ from c90)) ?_
  simp only [Act.put,sA,sB,sC]
  refine⟨trivial,?_⟩
  refine te 5 (some 25) (.pointer (some ⟨b,m*7,none⟩)) (zo (v0:= .pointer (some ⟨b,m*7,none⟩)) kr (fun w9=>Sk.exec_ixs (.tmp 23) (.tmp 24) (n:=m+1) (cap:=cap) kr kr kr w9 (Nat.lt_succ_self m)) rfl) hS ?_
  refine tq 6 26 (.pointer (some ⟨b,m*7+6,none⟩)) hS ?_
  refine wpAnyH_all (rs:=[7]) kr sp (fun j hj=> ?_)
  obtain rfl:j=7:=by simpa using hj
  clear hj
  refine zz 7 (some 27) (Sk.undoV lb) w.drew kr kr kr (Sk.exec_ldf (.tmp 26) kr kr (show w.drew.cell? ⟨b,m*7+6,none⟩=_ from Hf.out)) ?_
  simp only [Act.put,sA,sB,sC]
  refine⟨trivial,?_⟩
  refine takeCallE 11 (some 31) 112 (#[.pointer (some ⟨g,1,none⟩),.pointer (some ⟨lb,0,none⟩)]) (fun _ W'=>W'.heap[g]? =some (.cells (Sk.gameC (s.pos m) ky (.slice (some ⟨b,0,none⟩) (m+1) cap)) 94 (0,0))∧w.drew.grownBy W' (some g)) kr kr kr kr kr (HU w.drew (fun _=>rfl) rfl) (fun x W3 hR=> ?_)
  simp only [Act.put,sA,sB,sC]
  refine⟨trivial,?_⟩
  refine wpAnyH_done kr ?_ _
  obtain⟨hr3,hg3⟩:=hR
  have hR3:RowAt W3 g 94 (Sk.gameC (s.pos m) ky (.slice (some ⟨b,0,none⟩) (m+1) cap)):=⟨hr3⟩
  have c90':=(hR3.cell 90).trans (Sk.gameC_90 _ _ _)
  have hm1:(m:Int)≤(cap:Int):=by omega
  clear c0 c90 hr3
  go_wp2_with ((with_reducible refine zY rfl 92 _ _ rfl ?_);refine⟨g,90,94,_,.slice (some ⟨b,0,none⟩) m cap,rfl,rfl,rfl,hR3,(by rw [Sk.gameC_size];omega),Sk.size_steps,?_⟩;intro W4 hP4 hr4)
  go_ret
  have hk:Sk.Kg base w W3:=But.of_grown (g:=g) ⟨hg3.os,hg3.tape,hg3.output,hg3.size,hg3.block⟩ ⟨Hat.lt,_,_,_,HG.heap,.inl rfl⟩
  exact⟨rfl,Sk.unmake_end Hat Hky Hown hk (fun k hk hlt=>hg3.block k hlt (fun e=>hk (Option.some.inj e))) hR3 hP4 hr4⟩
namespace Sk
def w0:Nat→Int:=V.start 0
def w1:Nat→Int:=G.next w0 (13,21,0,0,false)
def w2:Nat→Int:=G.next w1 (52,36,0,0,false)
def w3:Nat→Int:=G.next w2 (14,30,0,0,false)
def w4:Nat→Int:=G.next w3 (59,31,0,0,false)
theorem w0_out:(G.outcome w0).1=0∧decide ((12,36,0,0,false)∈G.list w0)=false∧decide ((12,28,0,0,false)∈G.list w0)=true∧decide ((13,21,0,0,false)∈G.list w0)=true:=by decide+kernel
theorem w1_out:(G.outcome w1).1=0∧decide ((52,36,0,0,false)∈G.list w1)=true:=by decide+kernel
theorem w2_out:(G.outcome w2).1=0∧decide ((14,30,0,0,false)∈G.list w2)=true:=by decide+kernel
theorem w3_out:(G.outcome w3).1=0∧decide ((59,31,0,0,false)∈G.list w3)=true:=by decide+kernel
theorem w4_out:(G.outcome w4).1≠0:=by decide+kernel
theorem w0_std:Ps.Ok w0 0 4 79:=by
 have h:w0 0=0∧w0 78=0∧M.stands w0 4 6=true∧w0 79=7∧w0 80=0:=by decide+kernel
 exact⟨h.1,h.2.1,h.2.2.1,h.2.2.2.1,h.2.2.2.2⟩
theorem w1_std:Ps.Ok w1 1 60 81:=by
 have h:w1 0=0∧w1 78=1∧M.stands w1 60 6=true∧w1 81=7∧w1 82=0:=by decide+kernel
 exact⟨h.1,h.2.1,h.2.2.1,h.2.2.2.1,h.2.2.2.2⟩
theorem w2_std:Ps.Ok w2 0 4 79:=by
 have h:w2 0=0∧w2 78=0∧M.stands w2 4 6=true∧w2 79=7∧w2 80=0:=by decide+kernel
 exact⟨h.1,h.2.1,h.2.2.1,h.2.2.2.1,h.2.2.2.2⟩
theorem w3_std:Ps.Ok w3 1 60 81:=by
 have h:w3 0=0∧w3 78=1∧M.stands w3 60 6=true∧w3 81=7∧w3 82=0:=by decide+kernel
 exact⟨h.1,h.2.1,h.2.2.1,h.2.2.2.1,h.2.2.2.2⟩
theorem w4_std:Ps.Ok w4 0 4 79:=by
 have h:w4 0=0∧w4 78=0∧M.stands w4 4 6=true∧w4 79=7∧w4 80=0:=by decide+kernel
 exact⟨h.1,h.2.1,h.2.2.1,h.2.2.2.1,h.2.2.2.2⟩
theorem w0_ok:PosOk w0:=by
 unfold PosOk
 decide+kernel
end Sk
end
section
open Go.RowKit Go.Sort
attribute [local go_sem] Oper.semAt_some
theorem Sk.make_ret{base g n:Nat}{s:Sk.St}{m:Mv}{w w':World}{e:Ending}(h:Sk.MakeEnd base g s n m w e w'):∃x,e= .returned (.int .i64 x):=by
 unfold Sk.MakeEnd at h
 split at h
 ·exact⟨_,h.1⟩
 ·split at h
  ·exact⟨_,h.1⟩
  ·exact⟨_,h.1⟩
theorem zdy(base:Nat)(w:World)(g:Nat)(s:Sk.St)(n:Nat)(f t:Int)(str:ByteArray)(h:Sk.At base w g s n)(hN:n≤1000)(hT:Tb w)(hbase:base≤w.heap.size)
  (hP:∀W,cB 166 #[.agg (posC (s.pos n)),.string str] W (.tuple #[.agg (movC f t 0 0 false),.int .i64 0])):
  Calls prog 78 #[.pointer (some ⟨g,0,none⟩),.string str] w fun e w'=>∃w1,Below w.heap.size w w1∧Sk.MakeEnd base g s n (f,t,0,0,false) w1 e w':=by
 have HP:=hid hP
 have HG:Hid (cB 18 #[.pointer (some ⟨g,0,none⟩)] w (.agg (posC (s.pos n)))):=hid (zey base w g s n h)
 have HM:Hid (∀W,Below w.heap.size w W→Calls prog 15 #[.pointer (some ⟨g,0,none⟩),.agg (movC f t 0 0 false)] W (Sk.MakeEnd base g s n (f,t,0,0,false) W)):=hid (fun W hb=>zca base W g s n (f,t,0,0,false) (h.below hb) hN (zi hT hb) (Nat.le_trans hbase hb.size))
 clear h hP hN hT hbase
 obtain⟨c,hc⟩:∃c,s.pos n=c:=⟨_,rfl⟩
 rw [hc]at HP HG
 clear hc
 go_enter func78,ntmps78
 go_upto_region 4 with(first
  |(go_at_call 18;(with_reducible refine HG.out.mono ?_);rintro e w1 ⟨rfl,hb1⟩)
  |(go_at_call 166;(with_reducible refine(HP.out _).mono ?_);rintro e w2 ⟨rfl,hb2⟩;have HB:=hid (za hb1 hb2);clear hb1 hb2)
  |((with_reducible refine zb rfl 47 _ _ rfl ?_);refine⟨w2.heap.size,47,movC f t 0 0 false,rfl,rfl,⟨_,heap_alloc_new _ _,kr⟩,info_mvB _ _ _ _ _,one_mvB _ _ _ _ _,?_⟩;intro W3 hP3 hr3;have HC:=hid (hP3.below (HB.alloc HB.size _) HB.size);clear hP3))
 go_wp2_with (first
  |((with_reducible refine zj rfl 47 _ rfl underlying47 rfl ?_);refine⟨_,_,_,rfl,hr3,info_mvB _ _ _ _ _,?_⟩)
  |(go_at_call 15;(with_reducible refine(HM.out _ HC.out).mono ?_);intro e w4 he;obtain⟨x,rfl⟩:=Sk.make_ret he))
 go_ret
 exact⟨_,HC,he⟩
theorem zcx{S:World→Prop}{K:Act→Prop}{a:Act}{o:Oper}(x y:Operand)(t:TypeId)(ho:o.op= .binOp .eql 31 x y t)
  (h:∃c d:Nat→Int,PosOk c∧PosOk d∧a.eval x= .agg (posC c)∧a.eval y= .agg (posC d)∧K (a.put o.dst (.bool (samePos c d)))):o.quiet prog a S K:=by
 obtain⟨c,d,hc,hd,hx,hy,hk⟩:=h
 refine⟨_,fun w' _=> ?_,hk⟩
 unfold Oper.quietAt
 rw [zdK a.eval o x y t c d w' hc hd ho hx hy]
 exact⟨rfl,rfl⟩
theorem zea{S:World→Prop}{K:Act→Prop}{a:Act}{o:Oper}(x y:Operand)(t:TypeId)(ho:o.op= .binOp .neq 31 x y t)
  (h:∃c d:Nat→Int,PosOk c∧PosOk d∧a.eval x= .agg (posC c)∧a.eval y= .agg (posC d)∧K (a.put o.dst (.bool (!samePos c d)))):o.quiet prog a S K:=by
 obtain⟨c,d,hc,hd,hx,hy,hk⟩:=h
 refine⟨_,fun w' _=> ?_,hk⟩
 unfold Oper.quietAt
 rw [zaT a.eval o x y t c d w' hc hd ho hx hy]
 exact⟨rfl,rfl⟩
namespace Sk
theorem push_old(s:St)(n:Nat)(m:Mv)(q:Nat→Int)(lb:Nat)(F:Nat→Prop):(s.push n m q lb F).pos n=s.pos n:=by
 show(if n=n+1 then q else s.pos n)=s.pos n
 rw [if_neg om]
theorem push_new(s:St)(n:Nat)(m:Mv)(q:Nat→Int)(lb:Nat)(F:Nat→Prop):(s.push n m q lb F).pos (n+1)=q:=by
 show(if n+1=n+1 then q else s.pos (n+1))=q
 rw [if_pos rfl]
def On(base:Nat)(w:World)(g n:Nat)(c:Nat→Int):Prop:=∃s,At base w g s n∧s.pos n=c
def On2(base:Nat)(w:World)(g n:Nat)(d c:Nat→Int):Prop:=∃s,At base w g s (n+1)∧s.pos n=d∧s.pos (n+1)=c
theorem On2.on{base g n:Nat}{w:World}{d c:Nat→Int}(h:On2 base w g n d c):On base w g (n+1) c:=h.imp fun _ h=>⟨h.1,h.2.2⟩
theorem On.below{base g n:Nat}{w w':World}{c:Nat→Int}(h:On base w g n c)(hb:Below w.heap.size w w'):On base w' g n c:=h.imp fun _ h=>⟨h.1.below hb,h.2⟩
theorem On2.below{base g n:Nat}{w w':World}{d c:Nat→Int}(h:On2 base w g n d c)(hb:Below w.heap.size w w'):On2 base w' g n d c:=h.imp fun _ h=>⟨h.1.below hb,h.2⟩
theorem On.ok{base g n:Nat}{w:World}{c:Nat→Int}(h:On base w g n c):PosOk c:=by
 obtain⟨s,h,rfl⟩:=h
 exact h.ok n (Nat.le_refl _)
theorem Kg.pos{base:Nat}{w w':World}(h:Kg base w w'){b:Nat}{c:Nat→Int}(hp:PosAt w b c):PosAt w' b c:=⟨h.block hp.heap dc dc⟩
theorem Kg.mv{base:Nat}{w w':World}(h:Kg base w w'){b:Nat}{m:Array Value}(hp:RowAt w b 47 m):RowAt w' b 47 m:=⟨h.block hp.heap dc dc⟩
end Sk
section
variable {base g n:Nat} {w:World} {c:Nat→Int}
theorem zdS(c:Nat→Int)(w:World)(hc:PosOk c)(hbase:base≤w.heap.size):Calls prog 12 #[.agg (posC c)] w fun e w'=>∃g,e= .returned (.pointer (some ⟨g,0,none⟩))∧Sk.On base w' g 0 c∧Below w.heap.size w w':=
 (zhX base c w hc hbase).mono fun _ _ ⟨g,h1,h2,h3⟩=>⟨g,h1,⟨_,h2,rfl⟩,h3⟩
theorem zbI(h:Sk.On base w g n c):cB 18 #[.pointer (some ⟨g,0,none⟩)] w (.agg (posC c)):=by
 obtain⟨s,h,rfl⟩:=h
 exact zey base w g s n h
theorem zgX(h:Sk.On base w g n c)(hN:n≤100000):cB 19 #[.pointer (some ⟨g,0,none⟩)] w (.int .u64 (U (H.key c))):=by
 obtain⟨s,h,rfl⟩:=h
 exact zc1 base w g s n h hN
theorem zbz(h:Sk.On base w g n c):cR 21 #[.pointer (some ⟨g,0,none⟩)] w (.int .i64 (n:Int)) fun w'=>w=w':=by
 obtain⟨s,h,rfl⟩:=h
 exact zhY base w g s n h
theorem zib(h:Sk.On base w g 0 c):cB 14 #[.pointer (some ⟨g,0,none⟩)] w (.int .i64 200):=by
 obtain⟨s,h,rfl⟩:=h
 exact zcj base w g s 0 h dc
theorem zeR{d:Nat→Int}(h:Sk.On2 base w g n d c)(hN:n≤1000):cR 14 #[.pointer (some ⟨g,0,none⟩)] w (.int .i64 0) fun w'=>Sk.On base w' g n d∧Sk.Kg base w w':=by
 obtain⟨s,h,rfl,_⟩:=h
 exact(zcj base w g s (n+1) h om).mono fun _ _ ⟨h1,h2,h3⟩=>⟨h1,⟨s,h2,rfl⟩,h3⟩
theorem zgl(m:Mv)(h:Sk.On base w g n c)(hN:n≤1000)(hT:Tb w)(hbase:base≤w.heap.size)(ho:(G.outcome c).1=0)(hm:m∈G.list c):
  cR 15 #[.pointer (some ⟨g,0,none⟩),.agg (M.cell m).toArray] w (.int .i64 0) fun w'=>Sk.On2 base w' g n c (G.next c m)∧Sk.Kg base w w':=by
 obtain⟨s,h,rfl⟩:=h
 refine(zca base w g s n m h hN hT hbase).mono fun e w' he=> ?_
 unfold Sk.MakeEnd at he
 rw [if_neg (by rw [ho];decide),if_pos hm]at he
 obtain⟨h1,lb,F,h2,h3⟩:=he
 exact⟨h1,⟨_,h2,Sk.push_old _ _ _ _ _ _,Sk.push_new _ _ _ _ _ _⟩,h3⟩
theorem zfN(m:Mv)(h:Sk.On base w g n c)(hN:n≤1000)(hT:Tb w)(hbase:base≤w.heap.size)(hm:(G.outcome c).1≠0∨m∉G.list c):
  cB 15 #[.pointer (some ⟨g,0,none⟩),.agg (M.cell m).toArray] w (.int .i64 (if(G.outcome c).1=0 then 170 else 190)):=by
 obtain⟨s,h,rfl⟩:=h
 refine(zca base w g s n m h hN hT hbase).mono fun e w' he=> ?_
 unfold Sk.MakeEnd at he
 by_cases ho:(G.outcome (s.pos n)).1=0
 ·have hm:=hm.resolve_left (fun h=>h ho)
  rw [if_neg (by rw [ho];decide),if_neg hm]at he
  rw [if_pos ho]
  exact he
 ·rw [if_pos ho]at he
  rw [if_neg ho]
  exact he
variable {f t:Int} {str:ByteArray}
theorem zb9(h:Sk.On base w g n c)(hN:n≤1000)(hT:Tb w)(hbase:base≤w.heap.size)(ho:(G.outcome c).1=0)(hm:decide ((f,t,0,0,false)∈G.list c)=true)
  (hP:∀W,cB 166 #[.agg (posC c),.string str] W (.tuple #[.agg (movC f t 0 0 false),.int .i64 0])):
  cR 78 #[.pointer (some ⟨g,0,none⟩),.string str] w (.int .i64 0) fun w'=>Sk.On2 base w' g n c (G.next c (f,t,0,0,false))∧Sk.Kg base w w':=by
 obtain⟨s,h,rfl⟩:=h
 refine(zdy base w g s n f t str h hN hT hbase hP).mono fun e w' ⟨w1,hb,he⟩=> ?_
 unfold Sk.MakeEnd at he
 rw [if_neg (by rw [ho];decide),if_pos (of_decide_eq_true hm)]at he
 obtain⟨h1,lb,F,h2,h3⟩:=he
 exact⟨h1,⟨_,h2,Sk.push_old _ _ _ _ _ _,Sk.push_new _ _ _ _ _ _⟩,(Sk.Kg.of_below base hb).trans h3⟩
theorem zf6(h:Sk.On base w g n c)(hN:n≤1000)(hT:Tb w)(hbase:base≤w.heap.size)(x:Int)(hm:(x=190∧(G.outcome c).1≠0)∨(x=170∧(G.outcome c).1=0∧decide ((f,t,0,0,false)∈G.list c)=false))
  (hP:∀W,cB 166 #[.agg (posC c),.string str] W (.tuple #[.agg (movC f t 0 0 false),.int .i64 0])):
  cB 78 #[.pointer (some ⟨g,0,none⟩),.string str] w (.int .i64 x):=by
 obtain⟨s,h,rfl⟩:=h
 refine(zdy base w g s n f t str h hN hT hbase hP).mono fun e w' ⟨w1,hb,he⟩=> ?_
 unfold Sk.MakeEnd at he
 rcases hm with⟨rfl,ho⟩|⟨rfl,ho,hm⟩
 ·rw [if_pos ho]at he
  exact⟨he.1,za hb he.2⟩
 ·rw [if_neg (by rw [ho];decide),if_neg (of_decide_eq_false hm)]at he
  exact⟨he.1,za hb he.2⟩
end
end
end Go.Proofs.YtbakeajgolhkgaaGreatDoor
