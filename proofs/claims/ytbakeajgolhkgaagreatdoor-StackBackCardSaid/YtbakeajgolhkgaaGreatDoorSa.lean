import Derived.ChangeSlices
import Derived.Deep.Slices
import Derived.Test.YtbakeajgolhkgaaGreatDoorYbn
import Derived.Test.YtbakeajgolhkgaaGreatDoorZl
set_option maxRecDepth 100000
set_option maxHeartbeats 8000000
open Go.Lib (hid)
namespace Go.Proofs.YtbakeajgolhkgaaGreatDoor
open Go.Proofs.Tryz
section
open Go.RowKit Go.Sort
section
variable {P:Program} {ops:Array Oper} {Q:Exit→Act→World→Prop} {md:Region.Mode} {S:World→Prop} {fuel:Nat} {listed:Array Bool} {a:Act} {w:World}
end
theorem load_int(p:Addr)(v:Value)(w:World)(h:w.cell? p=some v):(loadVar 3 p).run prog w= .ok v w:=by
 simp [go_sem,h]
end
section
open Go.RowKit Go.Sort Go.ChangeShapes Go.WideShapes Go.Deep
namespace Sk
def run(c:Nat→Int)(x:Nat→Int):Nat→Nat→Int
 |0=>c
 |k+1=>G.next (run c x k) (nth (run c x k) (x k))
def can(c:Nat→Int)(x:Nat→Int)(k:Nat):Bool:=some' (run c x k)&&decide ((G.outcome (run c x k)).1=0)
theorem run_add(c:Nat→Int)(x:Nat→Int)(a:Nat):∀b,run (run c x a) (fun i=>x (a+i)) b=run c x (a+b)
 |0=>rfl
 |b+1=>by
  show G.next (run (run c x a) (fun i=>x (a+i)) b) (nth (run (run c x a) (fun i=>x (a+i)) b) (x (a+b)))=G.next (run c x (a+b)) (nth (run c x (a+b)) (x (a+b)))
  rw [run_add c x a b]
theorem can_add(c:Nat→Int)(x:Nat→Int)(a b:Nat):can (run c x a) (fun i=>x (a+i)) b=can c x (a+b):=by unfold can;rw [run_add]
def Ints(B:Nat)(w:World)(v:Value)(N:Nat)(x:Nat→Int):Prop:=∃(ao:Option Addr) (cap:Nat),v= .slice ao N cap∧N≤cap∧cap≤maxLen∧(ao=none→cap=0)∧(0<N→∃b off,ao=some ⟨b,off,none⟩∧b<B∧∀i,i<N→w.cell? ⟨b,off+i,none⟩=some (.int .i64 (x i)))
theorem Ints.below{B:Nat}{w w':World}{v:Value}{N:Nat}{x:Nat→Int}(h:Ints B w v N x)(hb:Below B w w'):Ints B w' v N x:=by
 obtain⟨ao,cap,h1,h2,h3,h4,h5⟩:=h
 refine⟨ao,cap,h1,h2,h3,h4,fun h0=> ?_⟩
 obtain⟨b,off,e,hB,hc⟩:=h5 h0
 exact⟨b,off,e,hB,fun i hi=>(World.cell?_of_block (hb.block b hB)).trans (hc i hi)⟩
structure Ply (base:Nat) (w0 w:World) (g:Nat) (s:St) (n:Nat) (x:Nat→Int) (k:Nat) (s':St):Prop where
 at':At base w g s' (n+k)
 kg:Kg base w0 w
 old:∀i,i≤n→s'.pos i=s.pos i
 oldm:∀i,i<n→s'.mv i=s.mv i
 new:∀i,i≤k→s'.pos (n+i)=run (s.pos n) x i
 newm:∀i,i<k→s'.mv (n+i)=nth (run (s.pos n) x i) (x i)
 may:∀i,i<k→Sk.can (s.pos n) x i=true
section
variable {base:Nat} {w0 w w':World} {g:Nat} {s s':St} {n:Nat} {x:Nat→Int} {k:Nat}
theorem Ply.start(h:At base w g s n)(x:Nat→Int):Ply base w w g s n x 0 s:=
 ⟨h,Kg.refl _ _,fun _ _=>rfl,fun _ _=>rfl,fun i hi=>by rw [show i=0 by omega];rfl,fun i hi=>by omega,fun i hi=>by omega⟩
theorem Ply.below(h:Ply base w0 w g s n x k s')(hb:Below w.heap.size w w'):Ply base w0 w' g s n x k s':=
 ⟨h.at'.below hb,h.kg.trans (Kg.of_below base hb),h.old,h.oldm,h.new,h.newm,h.may⟩
theorem push_pos_old{s:St}{n i:Nat}{m:Mv}{q:Nat→Int}{lb:Nat}{F:Nat→Prop}(hi:i≤n):(s.push n m q lb F).pos i=s.pos i:=by
 show(if i=n+1 then q else s.pos i)=s.pos i
 rw [if_neg om]
theorem push_mv_old{s:St}{n i:Nat}{m:Mv}{q:Nat→Int}{lb:Nat}{F:Nat→Prop}(hi:i<n):(s.push n m q lb F).mv i=s.mv i:=by
 show(if i=n then m else s.mv i)=s.mv i
 rw [if_neg om]
theorem push_mv_new{s:St}{n:Nat}{m:Mv}{q:Nat→Int}{lb:Nat}{F:Nat→Prop}:(s.push n m q lb F).mv n=m:=by
 show(if n=n then m else s.mv n)=m
 rw [if_pos rfl]
theorem Ply.next{lb:Nat}{F:Nat→Prop}(h:Ply base w0 w g s n x k s')(hc:Sk.can (s.pos n) x k=true)(m:Mv)(hm:m=nth (run (s.pos n) x k) (x k))
  (ha:At base w' g (s'.push (n+k) m (G.next (s'.pos (n+k)) m) lb F) (n+k+1)) (hk:Kg base w w'):∃s'',Ply base w0 w' g s n x (k+1) s'':=by
 subst hm
 refine⟨_,ha,h.kg.trans hk,fun i hi=> ?_,fun i hi=> ?_,fun i hi=> ?_,fun i hi=> ?_,fun i hi=> ?_⟩
 ·rw [push_pos_old om];exact h.old i hi
 ·rw [push_mv_old om];exact h.oldm i hi
 ·by_cases e:i=k+1
  ·subst e
   rw [show n+(k+1)=n+k+1 from rfl,push_new,h.new k (Nat.le_refl _)]
   rfl
  ·rw [push_pos_old om];exact h.new i om
 ·by_cases e:i=k
  ·subst e;rw [push_mv_new]
  ·rw [push_mv_old om];exact h.newm i om
 ·by_cases e:i=k
  ·subst e;exact hc
  ·exact h.may i om
end
def PlayEnd(base g:Nat)(s:St)(n:Nat)(x:Nat→Int)(N:Nat)(w:World)(e:Ending)(w':World):Prop:=
 ∃(k:Nat) (s':St),e= .returned (.int .i64 (k:Int))∧k≤N∧(k<N→can (s.pos n) x k=false)∧Ply base w w' g s n x k s'
end Sk
section
variable {H:Type} {enc:TypeId×Value→H} {w:World} {base:Nat} {spare:Nat→Bool} {held:Bool}
theorem open_nums{r:Reach}{b0:Nat}{v:Value}{d:DataW H}{p:List MemPlace}(hv:Value.okWide prog w r b0 78 v)(h:DataW.Trod enc prog w base spare held 78 v d p):
  ∃N x,Sk.Ints w.heap.size w v N x:=by
 obtain⟨a0,len,cap,rfl⟩:=okWide_slice underlying78 hv
 obtain⟨fuel,hf⟩:=h
 rcases open_ints underlying78 underlying3 kr hf with⟨hcs,hx⟩|⟨a,len',cap',zs,hcs,_,hl,hm,hz,hx,hcell,hw⟩
 ·simp [Value.cells]at hcs
  obtain⟨rfl,rfl,rfl⟩:=hcs
  exact⟨0,fun _=>0,none,0,rfl,Nat.le_refl _,by decide,fun _=>rfl,fun h=>by cases h⟩
 ·simp [Value.cells]at hcs
  obtain⟨rfl,rfl,rfl⟩:=hcs
  have hlz:len≤zs.length:=by rw [hz];split<;>omega
  refine⟨len,fun i=>zs.getD i 0,some a,cap,rfl,hl,hm,(fun e=>by cases e),fun h0=> ?_⟩
  have hc0:=hcell 0 om
  rw [show a.add 0=a from rfl]at hc0
  have hsp:=World.cell?_spot hc0
  obtain⟨b,off,spot⟩:=a
  subst hsp
  refine⟨b,off,rfl,World.block_lt_of_cell? w _ hc0,fun i hi=> ?_⟩
  have:=hcell i om
  rwa [add_plain]at this
end
end
section
open Go.RowKit Go.Sort
attribute [local go_sem] Oper.semAt_some
theorem Sk.one_mvR(m:Mv):(M.cell m).toArray.all (·.oneCell')=true:=by kernel_rfl
theorem Sk.size_mvR(m:Mv):(prog.info? 47).map (·.size)=some (M.cell m).toArray.size:=by kernel_rfl
theorem Sk.there_mv{W:World}{b:Nat}{cs:Array Value}{m:Mv}(h:RowAt W b 47 cs)(hs:cs.size=5):W.there b 0 (M.cell m).toArray.size:=fun j hj=>by
 have hj:j<5:=hj
 refine⟨?_,by rw [Nat.zero_add];exact h.frozen j⟩
 rw [Nat.zero_add,h.cell j,Array.getElem?_eq_getElem om]
 rfl
theorem Sk.mv_stored{w3 W:World}{b:Nat}{cs:Array Value}(m:Mv)(h:Below w3.heap.size w3 W)(hr:RowAt W b 47 cs)(hs:cs.size=5)(hb:w3.heap.size≤b):Below w3.heap.size w3 (W.setCells b 0 (M.cell m).toArray.toList)∧RowAt (W.setCells b 0 (M.cell m).toArray.toList) b 47 (M.cell m).toArray:=by
 refine⟨(Lg.put_setCellsL b _ _ _).below h hb,⟨?_⟩⟩
 have e:Lg.setSeg cs 0 (M.cell m).toArray.toList=(M.cell m).toArray:=Array.ext_getElem? fun i=>by
  rw [Lg.setSeg_get]
  by_cases hi:i<5
  ·rw [if_pos (by exact⟨⟨by omega,by show i<0+5;omega⟩,by omega⟩),Nat.sub_zero,Array.getElem?_toList]
  ·rw [if_neg (by rintro⟨⟨_,h2⟩,_⟩;exact hi (by have:i<0+5:=h2;omega)),Array.getElem?_eq_none om,Array.getElem?_eq_none (by show 5≤i;omega)]
 exact(Lg.heap_setCellsO b _ _ _ _ _ hr.heap).trans (by rw [e])
theorem Sk.exec_ixi{ev:Operand→Value}{o:Oper}(x y:Operand){b off n cap m:Nat}(ho:o.op= .indexAddr 78 x y)(hx:ev x= .slice (some ⟨b,off,none⟩) n cap)(hy:ev y= .int .i64 (m:Int))(w:World)(hm:m<n):(execOp ev o).run prog w= .ok (.value (.pointer (some ⟨b,off+m,none⟩))) w:=by
 unfold execOp
 simp only [ho,hx,hy]
 have e1:(0:Int)≤(m:Int):=by omega
 have e2:(m:Int)<(n:Int):=by omega
 simp [go_sem,e1,e2]
theorem Sk.load_int(p:Addr)(v:Value)(w:World)(h:w.cell? p=some v):(loadVar 3 p).run prog w= .ok v w:=by
 simp [go_sem,h]
theorem Sk.st_next{N k:Nat}(hN:N≤100000)(h:k<N):wrap64 ((k:Int)+1)=((k+1:Nat):Int)∧N-(intOf (.int .i64 (wrap64 ((k:Int)+1)))).toNat<N-(intOf (.int .i64 (k:Int))).toNat:=by
 have e1:wrap64 ((k:Int)+1)=((k+1:Nat):Int):=by simp only [wrap64];omega
 refine⟨e1,?_⟩
 rw [e1]
 simp only [intOf,Int.toNat_natCast]
 omega
theorem Sk.make_way{base g n:Nat}{s':Sk.St}{m:Mv}{w w':World}{e:Ending}{c:Nat→Int}(hc:s'.pos n=c)(hm:m∈G.list c)(h:Sk.MakeEnd base g s' n m w e w'):
  ((G.outcome c).1≠0∧e= .returned (.int .i64 190)∧Below w.heap.size w w')∨((G.outcome c).1=0∧e= .returned (.int .i64 0)∧∃lb F,Sk.At base w' g (s'.push n m (G.next (s'.pos n) m) lb F) (n+1)∧Sk.Kg base w w'):=by
 unfold Sk.MakeEnd at h
 rw [hc]at h
 by_cases ho:(G.outcome c).1≠0
 ·rw [if_pos ho]at h;exact .inl ⟨ho,h⟩
 ·rw [if_neg ho,if_pos hm]at h
  rw [hc]
  exact .inr ⟨by omega,h⟩
theorem play_any(base:Nat)(w:World)(g:Nat)(s:Sk.St)(n N:Nat)(x:Nat→Int)(v:Value)(h:Sk.At base w g s n)(hv:Sk.Ints base w v N x)(hN:n+N≤1000)(hT:∀W,Below base w W→Tb W)(hbase:base≤w.heap.size):
  Calls prog 36 #[.pointer (some ⟨g,0,none⟩),v] w (Sk.PlayEnd base g s n x N w):=by
 obtain⟨ao,cap,rfl,h1,h2,h3,h4⟩:=hv
 have HC:=hid h4
 have HP:=hid (Sk.Ply.start h x)
 have HT:=hid hT
 have HN:=hid hN
 have HB:=hid hbase
 clear h h3 h4 hT hbase hN
 go_enter func36,ntmps36
 go_wp2
 go_loopw [5,6,7] (fun i _ _ wr=>∃k s',k≤N∧i= .int .i64 (k:Int)∧Hid (Sk.Ply base w wr g s n x k s')) (fun i _ _ _=>N-(intOf i).toNat)
 case atStart=>exact⟨0,s,Nat.zero_le _,rfl,HP⟩
 case round=>
  obtain⟨k,s',hk,rfl,HPk⟩:=hrel
  by_cases hlt:k<N
  ·obtain⟨b,off,rfl,hb,hc⟩:=HC om
   have hck:=hc k hlt
   have hBw:Below base w wr:=HPk.kg.below HB.out
   have hbw:base≤wr.heap.size:=Nat.le_trans HB hBw.size
   have hcr:wr.cell? ⟨b,off+k,none⟩=some (.int .i64 (x k)):=(World.cell?_of_block (hBw.block b hb)).trans hck
   have Hcr:=hid (fun W (h9:Below wr.heap.size wr W)=>show W.cell? ⟨b,off+k,none⟩=some (.int .i64 (x k))from(World.cell?_of_block (h9.block b om)).trans hcr)
   have hcx:s'.pos (n+k)=Sk.run (s.pos n) x k:=HPk.new k (Nat.le_refl _)
   have hok:PosOk (Sk.run (s.pos n) x k):=hcx▸HPk.at'.ok _ (Nat.le_refl _)
   have HIn:=hid (fun h=>Sk.nth_in (c:=Sk.run (s.pos n) x k) (x k) h)
   have HCan:Hid (Sk.can (s.pos n) x k=(Sk.some' (Sk.run (s.pos n) x k)&&decide ((G.outcome (Sk.run (s.pos n) x k)).1=0))):=hid rfl
   have HNx:=hid (fun(hcan:Sk.can (s.pos n) x k=true) W lb F m (hm:m=Sk.nth (Sk.run (s.pos n) x k) (x k)) (ha:Sk.At base W g (s'.push (n+k) m (G.next (s'.pos (n+k)) m) lb F) (n+k+1)) (hkg:Sk.Kg base wr W)=>HPk.next hcan m hm ha hkg)
   have HDone:=hid (fun(hcan:Sk.can (s.pos n) x k=false) W (hb:Below wr.heap.size wr W)=>show Sk.PlayEnd base g s n x N w (.returned (.int .i64 (k:Int))) W from⟨k,s',rfl,hk,fun _=>hcan,HPk.below hb⟩)
   have HMk:=hid (fun m W (hb:Below wr.heap.size wr W)=>zca base W g s' (n+k) m (HPk.at'.below hb) (by have:=HN.out;omega) (HT W (hBw.trans (hb.mono hbw))) (Nat.le_trans hbw hb.size))
   have HPo:Hid (∀W,Below wr.heap.size wr W→cB 18 #[.pointer (some ⟨g,0,none⟩)] W (.agg (posC (s'.pos (n+k))))):=hid (fun W hb=>zey base W g s' (n+k) (HPk.at'.below hb))
   have HPi:Hid (∀W,Below wr.heap.size wr W→cB 37 #[.agg (posC (Sk.run (s.pos n) x k)),.int .i64 (x k)] W (.tuple #[.agg (M.cell (Sk.nth (Sk.run (s.pos n) x k) (x k))).toArray,.bool (Sk.some' (Sk.run (s.pos n) x k))])):=hid (fun W hb=>zhg _ (x k) W hok (HT W (hBw.trans (hb.mono hbw))))
   have HW:=hid (fun m W e W' (hm:m∈G.list (Sk.run (s.pos n) x k)) (he:Sk.MakeEnd base g s' (n+k) m W e W')=>Sk.make_way hcx hm he)
   rw [hcx]at HPo
   obtain⟨c,hcc⟩:∃c,Sk.run (s.pos n) x k=c:=⟨_,rfl⟩
   obtain⟨m,hmm⟩:∃m,Sk.nth c (x k)=m:=⟨_,rfl⟩
   obtain⟨ok,hoo⟩:∃o,Sk.some' c=o:=⟨_,rfl⟩
   rw [hcc]at HPo HPi HW HIn HCan HNx
   rw [hmm]at HPi HIn HNx
   rw [hoo]at HPi HIn HCan
   obtain⟨xk,hxk⟩:∃y,x k=y:=⟨_,rfl⟩
   rw [hxk]at HPi Hcr
   have hlt2:(k:Int)<(N:Int):=by omega
   clear hcr hck hc hcx hok hcc hmm hoo hBw hbw hxk hb
   obtain⟨f',t',p',d',ca'⟩:=m
   go_upto_region 4 with fail
   refine wp_region_held (S:=fun W=>Below wr.heap.size wr W) kr ?_
   have hS:Below wr.heap.size wr wr.drew:=(Below.refl _ _).drew
   show wpAnyH _ _ _ _ _ _ _ _ wr.drew
   refine Sk.cut2 (F:=fun(mb:Nat) W=>Below wr.heap.size wr W∧RowAt W mb 47 (M.cell (f',t',p',d',ca')).toArray) (G:= ?G) ?rest ?main
   case main=>
    intro key
    refine tq 0 15 (.pointer (some ⟨g,0,none⟩)) hS ?_
    refine tq 2 17 (.slice (some ⟨b,off,none⟩) N cap) hS ?_
    refine tq 3 18 (.int .i64 (k:Int)) hS ?_
    refine te 4 (some 19) (.pointer (some ⟨b,off+k,none⟩)) (zo (v0:= .pointer (some ⟨b,off+k,none⟩)) kr (fun w9=>Sk.exec_ixi (.tmp 17) (.tmp 18) (n:=N) (cap:=cap) kr kr kr w9 hlt) rfl) hS ?_
    refine te 5 (some 20) (.int .i64 xk) (zt kr 3 (.tmp 19) kr ⟨b,off+k,none⟩ kr (fun w9=>Sk.load_int _ _ w9) (fun w9 h9=>Hcr w9 h9)) hS ?_
    refine wpAnyH_all (rs:=[1,10]) kr sp (fun i hi=> ?_)
    rcases(show i=1∨i=10 by simpa using hi)with rfl|rfl
    ·refine zaf 1 (some 16) 18 (#[.pointer (some ⟨g,0,none⟩)]) (.agg (posC c)) (fun W=>Below wr.drew.heap.size wr.drew W) kr kr kr kr (HPo _ hS) (fun w4 hb4=> ?_)
     simp only [Act.put,sA,sB,sC]
     have hS4:Below wr.heap.size wr w4:=hS.trans (hb4.mono hS.size)
     refine⟨hS4,?_⟩
     refine wpAnyH_all (rs:=[6,10]) kr sp (fun i hi=> ?_)
     rcases(show i=6∨i=10 by simpa using hi)with rfl|rfl
     ·refine zaf 6 (some 21) 37 (#[.agg (posC c),.int .i64 xk]) (.tuple #[.agg (M.cell (f',t',p',d',ca')).toArray,.bool ok]) (fun W=>Below w4.heap.size w4 W) kr kr kr kr (HPi _ hS4) (fun w5 hb5=> ?_)
      simp only [Act.put,sA,sB,sC]
      have hS5:Below wr.heap.size wr w5:=hS4.trans (hb5.mono hS4.size)
      refine⟨hS5,?_⟩
      refine tq 7 14 (.tuple #[.agg (M.cell (f',t',p',d',ca')).toArray,.bool ok]) hS5 ?_
      refine tq 8 22 (.agg (M.cell (f',t',p',d',ca')).toArray) hS5 ?_
      refine tq 9 23 (.bool ok) hS5 ?_
      refine wpAnyH_all (rs:=[10]) kr sp (fun j hj=> ?_)
      obtain rfl:j=10:=by simpa using hj
      clear hj
      refine zz 10 (some 6) (.pointer (some ⟨w5.heap.size,0,none⟩)) (w5.alloc (.cells #[.int .i8 0,.int .i8 0,.int .u8 0,.int .u8 0,.bool false] 47)) kr kr kr kr ?_
      simp only [Act.put,sA,sB,sC]
      have hSa:Below wr.heap.size wr (w5.alloc (.cells #[.int .i8 0,.int .i8 0,.int .u8 0,.int .u8 0,.bool false] 47)):=hS5.alloc hS5.size _
      have hgr:=RowAt.new w5 #[.int .i8 0,.int .i8 0,.int .u8 0,.int .u8 0,.bool false] 47
      have hle:=hS5.size
      obtain⟨mb,hmb⟩:∃y,w5.heap.size=y:=⟨_,rfl⟩
      obtain⟨wa,hwa⟩:∃W,w5.alloc (.cells #[.int .i8 0,.int .i8 0,.int .u8 0,.int .u8 0,.bool false] 47)=W:=⟨_,rfl⟩
      rw [hwa]at hSa hgr⊢
      rw [hmb]at hgr hle⊢
      clear hwa hmb
      refine⟨hSa,?_⟩
      refine Sk.takeStore 11 47 (.tmp 6) (.tmp 22) mb 0 (M.cell (f',t',p',d',ca')).toArray kr kr kr kr kr kr kr (Sk.there_mv hgr kr) (Sk.size_mvR _) (Sk.one_mvR _) ?_
      obtain⟨hS9,hm9⟩:=Sk.mv_stored (f',t',p',d',ca') hSa hgr kr hle
      refine⟨hS9,?_⟩
      refine tq 12 7 (.bool ok) hS9 ?_
      refine wpAnyH_done kr ?_ _
      obtain⟨w9,hw9⟩:∃W,(wa).setCells mb 0 (M.cell (f',t',p',d',ca')).toArray.toList=W:=⟨_,rfl⟩
      rw [hw9]at hS9 hm9⊢
      exact key mb w9 ⟨hS9,hm9⟩
     ·refine zz 10 (some 6) (.pointer (some ⟨w4.heap.size,0,none⟩)) (w4.alloc (.cells #[.int .i8 0,.int .i8 0,.int .u8 0,.int .u8 0,.bool false] 47)) kr kr kr kr ?_
      simp only [Act.put,sA,sB,sC]
      have hSa:Below wr.heap.size wr (w4.alloc (.cells #[.int .i8 0,.int .i8 0,.int .u8 0,.int .u8 0,.bool false] 47)):=hS4.alloc hS4.size _
      have hgr:=RowAt.new w4 #[.int .i8 0,.int .i8 0,.int .u8 0,.int .u8 0,.bool false] 47
      have hle:=hS4.size
      obtain⟨mb,hmb⟩:∃y,w4.heap.size=y:=⟨_,rfl⟩
      obtain⟨wa,hwa⟩:∃W,w4.alloc (.cells #[.int .i8 0,.int .i8 0,.int .u8 0,.int .u8 0,.bool false] 47)=W:=⟨_,rfl⟩
      rw [hwa]at hSa hgr⊢
      rw [hmb]at hgr hle⊢
      clear hwa hmb
      refine⟨hSa,?_⟩
      refine tf 6 (some 21) 37 (#[.agg (posC c),.int .i64 xk]) (.tuple #[.agg (M.cell (f',t',p',d',ca')).toArray,.bool ok]) (fun W=>Below wa.heap.size wa W) (HPi _ hSa) (fun w5 hb5=> ?_)
      have hS5:Below wr.heap.size wr w5:=hSa.trans (hb5.mono hSa.size)
      refine⟨hS5,?_⟩
      replace hgr:=hgr.below hb5
      refine tq 7 14 (.tuple #[.agg (M.cell (f',t',p',d',ca')).toArray,.bool ok]) hS5 ?_
      refine tq 8 22 (.agg (M.cell (f',t',p',d',ca')).toArray) hS5 ?_
      refine tq 9 23 (.bool ok) hS5 ?_
      refine Sk.takeStore 11 47 (.tmp 6) (.tmp 22) mb 0 (M.cell (f',t',p',d',ca')).toArray kr kr kr kr kr kr kr (Sk.there_mv hgr kr) (Sk.size_mvR _) (Sk.one_mvR _) ?_
      obtain⟨hS9,hm9⟩:=Sk.mv_stored (f',t',p',d',ca') hS5 hgr kr hle
      refine⟨hS9,?_⟩
      refine tq 12 7 (.bool ok) hS9 ?_
      refine wpAnyH_done kr ?_ _
      obtain⟨w9,hw9⟩:∃W,(w5).setCells mb 0 (M.cell (f',t',p',d',ca')).toArray.toList=W:=⟨_,rfl⟩
      rw [hw9]at hS9 hm9⊢
      exact key mb w9 ⟨hS9,hm9⟩
    ·refine zz 10 (some 6) (.pointer (some ⟨wr.drew.heap.size,0,none⟩)) (wr.drew.alloc (.cells #[.int .i8 0,.int .i8 0,.int .u8 0,.int .u8 0,.bool false] 47)) kr kr kr kr ?_
     simp only [Act.put,sA,sB,sC]
     have hSa:Below wr.heap.size wr (wr.drew.alloc (.cells #[.int .i8 0,.int .i8 0,.int .u8 0,.int .u8 0,.bool false] 47)):=hS.alloc hS.size _
     have hgr:=RowAt.new wr.drew #[.int .i8 0,.int .i8 0,.int .u8 0,.int .u8 0,.bool false] 47
     have hle:=hS.size
     obtain⟨mb,hmb⟩:∃y,wr.drew.heap.size=y:=⟨_,rfl⟩
     obtain⟨wa,hwa⟩:∃W,wr.drew.alloc (.cells #[.int .i8 0,.int .i8 0,.int .u8 0,.int .u8 0,.bool false] 47)=W:=⟨_,rfl⟩
     rw [hwa]at hSa hgr⊢
     rw [hmb]at hgr hle⊢
     clear hwa hmb
     refine⟨hSa,?_⟩
     refine tf 1 (some 16) 18 (#[.pointer (some ⟨g,0,none⟩)]) (.agg (posC c)) (fun W=>Below wa.heap.size wa W) (HPo _ hSa) (fun w4 hb4=> ?_)
     have hS4:Below wr.heap.size wr w4:=hSa.trans (hb4.mono hSa.size)
     refine⟨hS4,?_⟩
     replace hgr:=hgr.below hb4
     refine tf 6 (some 21) 37 (#[.agg (posC c),.int .i64 xk]) (.tuple #[.agg (M.cell (f',t',p',d',ca')).toArray,.bool ok]) (fun W=>Below w4.heap.size w4 W) (HPi _ hS4) (fun w5 hb5=> ?_)
     have hS5:Below wr.heap.size wr w5:=hS4.trans (hb5.mono hS4.size)
     refine⟨hS5,?_⟩
     replace hgr:=hgr.below hb5
     refine tq 7 14 (.tuple #[.agg (M.cell (f',t',p',d',ca')).toArray,.bool ok]) hS5 ?_
     refine tq 8 22 (.agg (M.cell (f',t',p',d',ca')).toArray) hS5 ?_
     refine tq 9 23 (.bool ok) hS5 ?_
     refine Sk.takeStore 11 47 (.tmp 6) (.tmp 22) mb 0 (M.cell (f',t',p',d',ca')).toArray kr kr kr kr kr kr kr (Sk.there_mv hgr kr) (Sk.size_mvR _) (Sk.one_mvR _) ?_
     obtain⟨hS9,hm9⟩:=Sk.mv_stored (f',t',p',d',ca') hS5 hgr kr hle
     refine⟨hS9,?_⟩
     refine tq 12 7 (.bool ok) hS9 ?_
     refine wpAnyH_done kr ?_ _
     obtain⟨w9,hw9⟩:∃W,(w5).setCells mb 0 (M.cell (f',t',p',d',ca')).toArray.toList=W:=⟨_,rfl⟩
     rw [hw9]at hS9 hm9⊢
     exact key mb w9 ⟨hS9,hm9⟩
   case rest=>
    rintro mb W4 ⟨hS4,hm4⟩
    have HS4:=hid hS4
    clear hS hS4 Hcr HPo HPi
    cases ok
    ·have hcan:=HCan.out
     rw [Bool.false_and]at hcan
     have HD:=hid (HDone hcan)
     clear hcan HMk HW HNx HDone HIn HCan
     go_wp2
     go_ret
     exact HD _ HS4.out
    ·by_cases ho:(G.outcome c).1=0
     ·have hcan:=HCan.out
      rw [Bool.true_and,decide_eq_true ho]at hcan
      have HNx2:=hid (HNx hcan)
      have HMm:Hid (Calls prog 15 #[.pointer (some ⟨g,0,none⟩),.agg (M.cell (f',t',p',d',ca')).toArray] W4 (fun e w'=>e= .returned (.int .i64 0)∧∃lb F,Sk.At base w' g (s'.push (n+k) (f',t',p',d',ca') (G.next (s'.pos (n+k)) (f',t',p',d',ca')) lb F) (n+k+1)∧Sk.Kg base W4 w')):=hid ((HMk _ W4 HS4).mono fun e w' he=>((HW _ _ _ _ (HIn rfl) he).resolve_left (fun h=>h.1 ho)).2)
      clear HMk HW HIn HNx HDone HCan hcan ho
      go_wp2_with (first
       |((with_reducible refine zs rfl 47 _ rfl underlying47 rfl ?_);refine⟨_,_,_,rfl,hm4,Sk.size_mvR _,?_⟩)
       |(go_at_call 15;(with_reducible refine HMm.out.mono ?_);rintro e W5 ⟨rfl,lb,F,ha,hkg⟩;have HZ:=hid (HNx2 _ _ _ _ rfl ha ((Sk.Kg.of_below base HS4).trans hkg));clear ha hkg))
      obtain⟨s2,hp2⟩:=HZ.out
      obtain⟨e1,e2⟩:=Sk.st_next (by have:=HN.out;omega) hlt
      exact⟨⟨k+1,s2,hlt,congrArg _ e1,hid hp2⟩,e2⟩
     ·have hcan:=HCan.out
      rw [Bool.true_and,decide_eq_false ho]at hcan
      have HD:=hid (HDone hcan)
      have HMm:Hid (Calls prog 15 #[.pointer (some ⟨g,0,none⟩),.agg (M.cell (f',t',p',d',ca')).toArray] W4 (fun e w'=>e= .returned (.int .i64 190)∧Below W4.heap.size W4 w')):=hid ((HMk _ W4 HS4).mono fun e w' he=>((HW _ _ _ _ (HIn rfl) he).resolve_right (fun h=>ho h.1)).2)
      clear HMk HW HIn HNx HDone HCan hcan ho
      go_wp2_with (first
       |((with_reducible refine zs rfl 47 _ rfl underlying47 rfl ?_);refine⟨_,_,_,rfl,hm4,Sk.size_mvR _,?_⟩)
       |(go_at_call 15;(with_reducible refine HMm.out.mono ?_);rintro e W5 ⟨rfl,hb5⟩;have HB5:=hid (HS4.trans (hb5.mono HS4.size));clear hb5))
      go_ret
      exact HD _ HB5.out
  ·obtain rfl:k=N:=by omega
   go_wp2
   go_ret
   exact⟨k,s',rfl,Nat.le_refl _,fun h=>absurd h (Nat.lt_irrefl _),HPk⟩
end
end Go.Proofs.YtbakeajgolhkgaaGreatDoor
