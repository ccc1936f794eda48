import Derived.LaidMore
import Derived.Stop.Joined
import Derived.SevenTiedAt
import Derived.Laws.OwnMore
import Derived.OrdersHeld
import Derived.Test.YtbakeajgolhkgaaGreatDoorZb
set_option maxRecDepth 100000
set_option maxHeartbeats 8000000
open Go.Lib (hid)
namespace Go.Proofs.YtbakeajgolhkgaaGreatDoor
open Go.Proofs.Tryz
section
open Go.RowKit Go.Sort
theorem by_any(c:Nat→Int)(s color:Int)(w:World)(hc:BdOk c)(hT:Tb w):
  cB 211 #[.agg (posC c),.int .i64 s,.int .u8 color] w (.int .u64 (U (K.by c s color))):=by
 by_cases h1:K.there s=true
 ·by_cases h2:color≤1
  ·exact by_in c s color w hc hT h1 h2
  ·have e:=hid (show K.by c s color=0#64 by unfold K.by;rw [if_neg (fun h=>h2 h.2)])
   have H1:=hid h1
   clear h1
   go_enter func211,ntmps211
   go_wp2_with (go_at_call 287;refine(zcP _ true _ H1).mono ?_;rintro e w' ⟨rfl,rfl⟩)
   go_ret
   exact⟨ret_int (by rw [e.out];rfl),(bA.alloc sp _).alloc (by simp<;>omega) _⟩
 ·have e:=hid (show K.by c s color=0#64 by unfold K.by;rw [if_neg (fun h=>h1 h.1)])
  have H1:=hid (show K.there s=false by simpa using h1)
  clear h1
  go_enter func211,ntmps211
  go_wp2_with (go_at_call 287;refine(zcP _ false _ H1).mono ?_;rintro e w' ⟨rfl,rfl⟩)
  go_ret
  exact⟨ret_int (by rw [e.out];rfl),(bA.alloc sp _).alloc (by simp<;>omega) _⟩
def K.on(c:Nat→Int)(s color:Int):Bool:=U (K.by c s color) !=0
theorem zh4(c:Nat→Int)(s color:Int)(w:World)(hc:BdOk c)(hT:Tb w):
  cB 142 #[.agg (posC c),.int .i64 s,.int .u8 color] w (.bool (K.on c s color)):=by
 have Hc:=hid hc
 have HT:=hid (zi hT ((Below.refl w.heap.size w).alloc (Nat.le_refl _) (.cells (posC c) 31)))
 clear hc hT
 go_enter func142,ntmps142
 go_wp2_with (first|((with_reducible refine zH rfl _ rfl c ?_ ?_);·(exact⟨_,_,_,rfl,heap_alloc_new _ _⟩))|(go_at_call 211;refine(by_any c _ _ _ Hc HT).mono ?_;rintro e w1 ⟨rfl,hb1⟩))
 go_ret
 exact⟨rfl,bA.trans (hb1.mono sp)⟩
theorem zar(v color:Int)(b:Bool)(w:World)(hv:0≤v)(h0:0≤color)(h:V.royal v color=b):
  cB 91 #[.int .u8 v,.int .u8 color] w (.bool b):=by
 have:=zgZ v.toNat color w h0
 rw [Int.toNat_of_nonneg hv,h]at this
 exact this
def K.lost(c:Nat→Int)(color:Int):Bool:=decide (S.find c color 6<0)||(c 0==3&&(U (bAnd (R.king (S.find c color 6)) (S.of c (K.oc color) 6)) !=0))
def K.kingOk(c:Nat→Int)(color:Int):Bool:=V.royal (c 0) color&& !K.lost c color
def K.kingAt(c:Nat→Int)(color:Int):Int:=if K.kingOk c color then S.find c color 6 else 0
theorem zfW(c:Nat→Int)(color:Int)(w:World)(hc:BdOk c)(hT:Tb w)(hv:0≤c 0)(h0:0≤color):
  cB 141 #[.agg (posC c),.int .u8 color] w (.tuple #[.int .i64 (K.kingAt c color),.bool (K.kingOk c color)]):=by
 have Hc:=hid hc
 have HT:=hid (zi hT ((Below.refl w.heap.size w).alloc (Nat.le_refl _) (.cells (posC c) 31)))
 clear hc hT
 cases hr:V.royal (c 0) color
 ·have e2:=hid (show K.kingOk c color=false by unfold K.kingOk;rw [hr];rfl)
  have e1:=hid (show K.kingAt c color=0 by unfold K.kingAt;rw [e2.out];rfl)
  go_enter func141,ntmps141
  go_wp2_with (go_at_call 91;refine(zar _ _ false _ hv h0 hr).mono ?_;rintro e w1 ⟨rfl,hb1⟩)
  go_ret2
  exact⟨by rw [e1.out,e2.out];rfl,bA.trans (hb1.mono sp)⟩
 ·cases hs:decide (S.find c color 6<0)
  ·cases hv3:(c 0==3)
   ·have e2:=hid (show K.kingOk c color=true by unfold K.kingOk K.lost;rw [hr,hs,hv3];rfl)
    have e1:=hid (show K.kingAt c color=S.find c color 6 by unfold K.kingAt;rw [e2.out];rfl)
    go_enter func141,ntmps141
    go_wp2_with (first|((with_reducible refine zH rfl _ rfl c ?_ ?_);·(exact⟨_,_,_,rfl,(hb1.block _ sp).trans (heap_alloc_new _ _)⟩))|(go_at_call 91;refine(zar _ _ true _ hv h0 hr).mono ?_;rintro e w1 ⟨rfl,hb1⟩)|(go_at_call 132;refine(zW c _ _ _ Hc (zi HT hb1)).mono ?_;rintro e w2 ⟨rfl,hb2⟩))
    have hb:=za hb1 hb2
    have hW:Below w.heap.size w w2:=bA.trans (hb.mono sp)
    have hp:w2.heap[w.heap.size]? =some (.cells (posC c) 31 (0,0)):=(hb.block _ sp).trans (heap_alloc_new _ _)
    have hz:w.heap.size<w2.heap.size:=(Array.getElem?_eq_some_iff.1 hp).1
    have hcv:w2.cell? ⟨w.heap.size,0,none⟩=some (.int .u8 (c 0)):=by simp only [World.cell?,hp];exact zew c
    refine zal kr kr ?_
    repeat(first
     |go_big_quiet_step (first
      |(go_at_call 202;exact zd (zao _ _))
      |(go_at_call 134;exact zd (zO c _ _ _ Hc)))
     |(go_big_quiet_want;refine zu _ rfl c ⟨_,_,_,rfl,fun w' ⟨p,e⟩=>(by rw [e,zG _ _ _ _ hz];exact hp)⟩ ?_;simp only [Act.put,List.setIfInBounds_toArray,List.set_cons_succ,List.set_cons_zero];go_big_quiet_on))
    refine wpQuiet_nil ?_
    intro w3 hb3
    have hW3:=za hW hb3
    clear hb3 hW hp hz hcv hb hb1 hb2
    go_wp2
    go_ret2
    exact⟨by rw [e1.out,e2.out];rfl,hW3⟩
   ·cases hn:(U (bAnd (R.king (S.find c color 6)) (S.of c (K.oc color) 6)) !=0)
    ·have e2:=hid (show K.kingOk c color=true by unfold K.kingOk K.lost;rw [hr,hs,hv3,hn];rfl)
     have e1:=hid (show K.kingAt c color=S.find c color 6 by unfold K.kingAt;rw [e2.out];rfl)
     unfold K.oc at hn
     go_enter func141,ntmps141
     go_wp2_with (first|((with_reducible refine zH rfl _ rfl c ?_ ?_);·(exact⟨_,_,_,rfl,(hb1.block _ sp).trans (heap_alloc_new _ _)⟩))|(go_at_call 91;refine(zar _ _ true _ hv h0 hr).mono ?_;rintro e w1 ⟨rfl,hb1⟩)|(go_at_call 132;refine(zW c _ _ _ Hc (zi HT hb1)).mono ?_;rintro e w2 ⟨rfl,hb2⟩))
     have hb:=za hb1 hb2
     have hW:Below w.heap.size w w2:=bA.trans (hb.mono sp)
     have hp:w2.heap[w.heap.size]? =some (.cells (posC c) 31 (0,0)):=(hb.block _ sp).trans (heap_alloc_new _ _)
     have hz:w.heap.size<w2.heap.size:=(Array.getElem?_eq_some_iff.1 hp).1
     have hcv:w2.cell? ⟨w.heap.size,0,none⟩=some (.int .u8 (c 0)):=by simp only [World.cell?,hp];exact zew c
     refine zal kr kr ?_
     repeat(first
      |go_big_quiet_step (first
       |(go_at_call 202;exact zd (zao _ _))
       |(go_at_call 134;exact zd (zO c _ _ _ Hc)))
      |(go_big_quiet_want;refine zu _ rfl c ⟨_,_,_,rfl,fun w' ⟨p,e⟩=>(by rw [e,zG _ _ _ _ hz];exact hp)⟩ ?_;simp only [Act.put,List.setIfInBounds_toArray,List.set_cons_succ,List.set_cons_zero];go_big_quiet_on))
     refine wpQuiet_nil ?_
     intro w3 hb3
     have hW3:=za hW hb3
     clear hb3 hW hp hz hcv hb hb1 hb2
     go_wp2
     go_ret2
     exact⟨by rw [e1.out,e2.out];rfl,hW3⟩
    ·have e2:=hid (show K.kingOk c color=false by unfold K.kingOk K.lost;rw [hr,hs,hv3,hn];rfl)
     have e1:=hid (show K.kingAt c color=0 by unfold K.kingAt;rw [e2.out];rfl)
     unfold K.oc at hn
     go_enter func141,ntmps141
     go_wp2_with (first|((with_reducible refine zH rfl _ rfl c ?_ ?_);·(exact⟨_,_,_,rfl,(hb1.block _ sp).trans (heap_alloc_new _ _)⟩))|(go_at_call 91;refine(zar _ _ true _ hv h0 hr).mono ?_;rintro e w1 ⟨rfl,hb1⟩)|(go_at_call 132;refine(zW c _ _ _ Hc (zi HT hb1)).mono ?_;rintro e w2 ⟨rfl,hb2⟩))
     have hb:=za hb1 hb2
     have hW:Below w.heap.size w w2:=bA.trans (hb.mono sp)
     have hp:w2.heap[w.heap.size]? =some (.cells (posC c) 31 (0,0)):=(hb.block _ sp).trans (heap_alloc_new _ _)
     have hz:w.heap.size<w2.heap.size:=(Array.getElem?_eq_some_iff.1 hp).1
     have hcv:w2.cell? ⟨w.heap.size,0,none⟩=some (.int .u8 (c 0)):=by simp only [World.cell?,hp];exact zew c
     refine zal kr kr ?_
     repeat(first
      |go_big_quiet_step (first
       |(go_at_call 202;exact zd (zao _ _))
       |(go_at_call 134;exact zd (zO c _ _ _ Hc)))
      |(go_big_quiet_want;refine zu _ rfl c ⟨_,_,_,rfl,fun w' ⟨p,e⟩=>(by rw [e,zG _ _ _ _ hz];exact hp)⟩ ?_;simp only [Act.put,List.setIfInBounds_toArray,List.set_cons_succ,List.set_cons_zero];go_big_quiet_on))
     refine wpQuiet_nil ?_
     intro w3 hb3
     have hW3:=za hW hb3
     clear hb3 hW hp hz hcv hb hb1 hb2
     go_wp2
     go_ret2
     exact⟨by rw [e1.out,e2.out];rfl,hW3⟩
  ·have e2:=hid (show K.kingOk c color=false by unfold K.kingOk K.lost;rw [hr,hs];rfl)
   have e1:=hid (show K.kingAt c color=0 by unfold K.kingAt;rw [e2.out];rfl)
   go_enter func141,ntmps141
   go_wp2_with (first|((with_reducible refine zH rfl _ rfl c ?_ ?_);·(exact⟨_,_,_,rfl,(hb1.block _ sp).trans (heap_alloc_new _ _)⟩))|(go_at_call 91;refine(zar _ _ true _ hv h0 hr).mono ?_;rintro e w1 ⟨rfl,hb1⟩)|(go_at_call 132;refine(zW c _ _ _ Hc (zi HT hb1)).mono ?_;rintro e w2 ⟨rfl,hb2⟩))
   have hb:=za hb1 hb2
   have hW:Below w.heap.size w w2:=bA.trans (hb.mono sp)
   have hp:w2.heap[w.heap.size]? =some (.cells (posC c) 31 (0,0)):=(hb.block _ sp).trans (heap_alloc_new _ _)
   have hz:w.heap.size<w2.heap.size:=(Array.getElem?_eq_some_iff.1 hp).1
   have hcv:w2.cell? ⟨w.heap.size,0,none⟩=some (.int .u8 (c 0)):=by simp only [World.cell?,hp];exact zew c
   refine zal kr kr ?_
   repeat(first
    |go_big_quiet_step (first
     |(go_at_call 202;exact zd (zao _ _))
     |(go_at_call 134;exact zd (zO c _ _ _ Hc)))
    |(go_big_quiet_want;refine zu _ rfl c ⟨_,_,_,rfl,fun w' ⟨p,e⟩=>(by rw [e,zG _ _ _ _ hz];exact hp)⟩ ?_;simp only [Act.put,List.setIfInBounds_toArray,List.set_cons_succ,List.set_cons_zero];go_big_quiet_on))
   refine wpQuiet_nil ?_
   intro w3 hb3
   have hW3:=za hW hb3
   clear hb3 hW hp hz hcv hb hb1 hb2
   go_wp2
   go_ret2
   exact⟨by rw [e1.out,e2.out];rfl,hW3⟩
def K.check(c:Nat→Int)(color:Int):Bool:=K.kingOk c color&&K.on c (K.kingAt c color) (K.oc color)
theorem zeS(c:Nat→Int)(color:Int)(b:Bool)(w:World)(hc:BdOk c)(hT:Tb w)(hv:0≤c 0)(h0:0≤color)(h:K.kingOk c color=b):
  cB 141 #[.agg (posC c),.int .u8 color] w (.tuple #[.int .i64 (K.kingAt c color),.bool b]):=by
 rw [←h];exact zfW c color w hc hT hv h0
theorem zau(c:Nat→Int)(color:Int)(w:World)(hc:BdOk c)(hT:Tb w)(hv:0≤c 0)(h0:0≤color):
  cB 62 #[.agg (posC c),.int .u8 color] w (.bool (K.check c color)):=by
 have Hc:=hid hc
 have HT:=hid (zi hT ((Below.refl w.heap.size w).alloc (Nat.le_refl _) (.cells (posC c) 31)))
 clear hc hT
 cases hk:K.kingOk c color
 ·have e:=hid (show K.check c color=false by unfold K.check;rw [hk];rfl)
  go_enter func62,ntmps62
  go_wp2_with (first|((with_reducible refine zH rfl _ rfl c ?_ ?_);·(exact⟨_,_,_,rfl,heap_alloc_new _ _⟩))|(go_at_call 141;refine(zeS c _ false _ Hc HT hv h0 hk).mono ?_;rintro e w1 ⟨rfl,hb1⟩))
  go_ret
  exact⟨zy e.out.symm,bA.trans (hb1.mono sp)⟩
 ·have e:=hid (show K.check c color=K.on c (K.kingAt c color) (K.oc color) by unfold K.check;rw [hk];rfl)
  unfold K.oc at e
  go_enter func62,ntmps62
  go_wp2_with (first|((with_reducible refine zbD rfl _ rfl c ?_ ?_);·(exact⟨_,_,_,rfl,(hb1.block _ sp).trans (heap_alloc_new _ _)⟩))|((with_reducible refine zH rfl _ rfl c ?_ ?_);·(exact⟨_,_,_,rfl,by first|exact heap_alloc_new _ _|exact(hb1.block _ sp).trans (heap_alloc_new _ _)⟩))|(go_at_call 141;refine(zeS c _ true _ Hc HT hv h0 hk).mono ?_;rintro e w1 ⟨rfl,hb1⟩)|(go_at_call 142;refine(zh4 c _ _ _ Hc (zi HT hb1)).mono ?_;rintro e w2 ⟨rfl,hb2⟩))
  go_ret
  exact⟨zy e.out.symm,bA.trans ((za hb1 hb2).mono sp)⟩
def K.from(c:Nat→Int)(s:Int):BitVec 64:=if K.there s=true then K.hits (P.kind (c (1+s.toNat))).toNat (P.color (c (1+s.toNat))) s (S.all c)else 0#64
theorem zfX{w:World}{b:Nat}{t:TypeId}{fr:Nat×Nat}{c:Nat→Int}(hg:w.heap[b]? =some (.cells (posC c) t fr)):w.rangeAt b 0 (posL c):=fun j v hv=>by
 rw [Nat.zero_add]
 simp only [World.cell?,hg]
 simpa [posC]using hv
theorem zgm{P:Program}{ops:Array Oper}{Q:Exit→Act→World→Prop}{i:Nat}{o:Oper}{a:Act}{w:World}{K:Act→World→Prop}(ho:ops[i]? =some o)(hw:Region.wanted o (yielded ops a.tmps)=true)(h:o.wp P a w K Q):wpOp P ops Q i K a w:=by
 unfold wpOp;rw [ho];simp only [hw,if_true];exact .inl h
def upd(c:Nat→Int)(i:Nat)(n:Int):Nat→Int:=fun j=>if j=i then n else c j
theorem zT(c:Nat→Int)(i j:Nat)(n:Int)(h:j≠i):upd c i n j=c j:=by simp [upd,h]
theorem zhi(c:Nat→Int)(i:Nat)(n:Int)(hi:i<88):(posC c).setIfInBounds i (.int (pk i) n)=posC (upd c i n):=by
 apply Array.ext_getElem?
 intro j
 rw [Array.getElem?_setIfInBounds]
 split
 ·rename_i h
  subst h
  rw [if_pos (by rw [zC];exact hi),zE _ _ hi]
  simp [upd]
 ·rename_i h
  by_cases hj:j<88
  ·rw [zE _ _ hj,zE _ _ hj]
   unfold upd
   rw [if_neg (fun e=>h e.symm)]
  ·rw [Array.getElem?_eq_none (by rw [zC];omega),Array.getElem?_eq_none (by rw [zC];omega)]
theorem zk{s:Nat}(h:s<64):pk (1+s)= .u8:=by unfold pk;rw [if_pos om]
structure PosAt (w:World) (g:Nat) (c:Nat→Int):Prop where
 heap:w.heap[g]? =some (.cells (posC c) 31 (0,0))
structure Put (g:Nat) (w w':World):Prop where
 os:w'.os=w.os
 tape:w'.tape=w.tape
 output:w'.output=w.output
 size:w'.heap.size=w.heap.size
 block:∀k,k≠g→w'.heap[k]? =w.heap[k]?
section
variable {w w' w0:World} {g b B:Nat} {c:Nat→Int}
theorem PosAt.lt(h:PosAt w g c):g<w.heap.size:=(Array.getElem?_eq_some_iff.1 h.heap).1
theorem PosAt.cell(h:PosAt w g c){i:Nat}(hi:i<88):w.cell? ⟨g,i,none⟩=some (.int (pk i) (c i)):=by
 simp only [World.cell?,h.heap];exact zE c i hi
theorem PosAt.bd(h:PosAt w g c){s:Nat}(hs:s<64):w.cell? ⟨g,1+s,none⟩=some (.int .u8 (c (1+s))):=by
 rw [h.cell om,zk hs]
theorem PosAt.frozen(h:PosAt w g c)(i:Nat):w.frozen? ⟨g,i,none⟩=false:=by simp [World.frozen?,h.heap]
theorem PosAt.below(h:PosAt w g c)(hb:Below w.heap.size w w'):PosAt w' g c:=⟨(hb.block g h.lt).trans h.heap⟩
theorem PosAt.belowB(h:PosAt w g c)(hb:Below B w w')(hg:g<B):PosAt w' g c:=⟨(hb.block g hg).trans h.heap⟩
theorem PosAt.alloc(h:PosAt w g c)(o:Obj):PosAt (w.alloc o) g c:=⟨(Below.heap_alloc _ _ _ h.lt).trans h.heap⟩
theorem PosAt.drew(h:PosAt w g c):PosAt w.drew g c:=⟨h.heap⟩
theorem PosAt.drewN(h:PosAt w g c)(n:Nat):PosAt (w.drewN n) g c:=⟨h.heap⟩
theorem PosAt.new(w:World)(c:Nat→Int):PosAt (w.alloc (.cells (posC c) 31)) w.heap.size c:=⟨heap_alloc_new _ _⟩
theorem Put.below(h:Put g w w')(hb:Below B w0 w)(hg:B≤g):Below B w0 w':=
 hb.trans ⟨h.os,h.tape,h.output,Nat.le_of_eq h.size.symm,fun k hk=>h.block k om⟩
theorem Put.pos(h:Put g w w')(hp:PosAt w b c)(hne:b≠g):PosAt w' b c:=⟨(h.block b hne).trans hp.heap⟩
theorem Put.refl(g:Nat)(w:World):Put g w w:=⟨rfl,rfl,rfl,rfl,fun _ _=>rfl⟩
theorem Put.trans{a b d:World}(h:Put g a b)(k:Put g b d):Put g a d:=⟨k.os.trans h.os,k.tape.trans h.tape,k.output.trans h.output,k.size.trans h.size,fun i hi=>(k.block i hi).trans (h.block i hi)⟩
theorem Put.cell(h:Put g w w'){p:Addr}(hp:p.block≠g):w'.cell? p=w.cell? p:=by
 unfold World.cell?;rw [h.block _ hp]
theorem zbL(i:Nat)(ty:TypeId)(k:IntKind)(n:Int)(hp:PosAt w g c)(hi:i<88)(hs:(prog.info? ty).map (·.size)=some 1):
  (storeVar ty ⟨g,i,none⟩ (.int k n)).run prog w= .ok () (w.setCell ⟨g,i,none⟩ (.int k n)):=by
 have h1:(store ⟨g,i,none⟩ (.int k n)).run prog w= .ok () (w.setCell ⟨g,i,none⟩ (.int k n)):=by
  rw [run_store _ w _ _ _ rfl,hp.cell hi]
  simp [hp.frozen i]
 cases hq:prog.info? ty with
 |none=>simp [hq]at hs
 |some j=>
  have hj:j.size=1:=by simpa [hq]using hs
  simp [storeVar,sizeOf,typeInfo,hq,hj,Value.cells,storeCells,Addr.add,h1]
theorem zN(w:World)(g i:Nat)(v:Value):Put g w (w.setCell ⟨g,i,none⟩ v):=
 ⟨rfl,rfl,rfl,by simp [World.setCell],fun k hk=>Below.heap_setCell w ⟨g,i,none⟩ v k hk⟩
theorem PosAt.setCell(hp:PosAt w g c){i:Nat}(hi:i<88){k:IntKind}(hk:pk i=k)(n:Int):PosAt (w.setCell ⟨g,i,none⟩ (.int k n)) g (upd c i n):=by
 subst hk
 refine⟨?_⟩
 rw [setCell_eq_setRow w g i (posC c) _ (0,0) _ hp.heap,setRow_heap w g (posC c) _ _ _ hp.heap,zhi c i n hi]
theorem zcv(w:World)(g:Nat)(cs:Array Value):Put g w (w.setRow g cs):=
 ⟨rfl,rfl,rfl,by simp [World.setRow],fun k hk=>setRow_other w g k cs hk⟩
theorem zaG(c:Nat→Int):(posC c).all (·.oneCell')=true:=by
 rw [Array.all_eq_true]
 intro i hi
 have:=zE c i (by rw [zC]at hi;exact hi)
 rw [Array.getElem?_eq_getElem hi]at this
 rw [Option.some.inj this]
 rfl
end
section
variable {ops:Array Oper} {rest:List Oper} {o:Oper} {a:Act} {w:World} {Q:Exit→Act→World→Prop}
theorem zB(hgd:o.guard=none)(ty:TypeId)(x y:Operand)(ho:o.op= .store ty x y)
  (h:∃(g i:Nat) (c:Nat→Int) (n:Int) (k:IntKind),a.eval x= .pointer (some ⟨g,i,none⟩)∧a.eval y= .int k n∧PosAt w g c∧i<88∧pk i=k∧(prog.info? ty).map (·.size)=some 1∧
   ∀W':World,Put g w W'→PosAt W' g (upd c i n)→wpList prog ops Q rest (a.put o.dst undef) W'):wpList prog ops Q (o::rest) a w:=by
 obtain⟨g,i,c,n,k,hx,hy,hp,hi,hk,hs,h⟩:=h
 refine wpList_plain hgd fun _ hK=> ?_
 unfold Oper.wp execOp
 simp only [ho,hx,hy,Instr.storeAt,Instr.sureAddr,Sem.run_bind,Sem.run_pure,Result.andThen_ok,zbL i ty k n hp hi hs]
 exact hK _ _ (h _ (zN w g i _) (hp.setCell hi hk n))
theorem zn(hgd:o.guard=none)(x y:Operand)(ho:o.op= .store 31 x y)
  (h:∃(g:Nat) (c:Nat→Int),a.eval x= .pointer (some ⟨g,0,none⟩)∧a.eval y= .agg (posC c)∧(∃old,w.heap[g]? =some (.cells old 31 (0,0))∧old.size=88)∧
   ∀W':World,Put g w W'→PosAt W' g c→wpList prog ops Q rest (a.put o.dst undef) W'):wpList prog ops Q (o::rest) a w:=by
 obtain⟨g,c,hx,hy,⟨old,hg,hs⟩,h⟩:=h
 exact wpList_store_row hgd _ x y ho g (posC c) hx hy _ old hg (zr c) (by rw [hs,zC]) (zaG c) (h _ (zcv _ _ _) ⟨setRow_heap _ _ _ _ _ _ hg⟩)
theorem ze(hgd:o.guard=none)(x:Operand)(ho:o.op= .load 31 x)
  (h:∃(g:Nat) (c:Nat→Int),a.eval x= .pointer (some ⟨g,0,none⟩)∧PosAt w g c∧wpList prog ops Q rest (a.put o.dst (.agg (posC c))) w):wpList prog ops Q (o::rest) a w:=by
 obtain⟨g,c,hx,hp,h⟩:=h
 exact zH hgd x ho c ⟨g,_,_,hx,hp.heap⟩ h
theorem zh(hw:Region.wanted o (yielded ops a.tmps)=true)(x:Operand)(ho:o.op= .load 31 x)
  (h:∃(g:Nat) (c:Nat→Int),a.eval x= .pointer (some ⟨g,0,none⟩)∧PosAt w g c∧wpList prog ops Q rest (a.put o.dst (.agg (posC c))) w):wpList prog ops Q (o::rest) a w:=by
 obtain⟨g,c,hx,hp,h⟩:=h
 exact zbD hw x ho c ⟨g,_,_,hx,hp.heap⟩ h
end
theorem size_u8:(prog.info? 5).map (·.size)=some 1:=by kernel_rfl
end
section
open Go.ChangeShapes Go.WideShapes Go.ChangeAt Go.RowKit
open Go.WideMaps Go.WideElems
theorem gTab:prog.globalNamed "math/bits.deBruijn64tab" =some 0:=by kernel_rfl
theorem tTab:(prog.globals[0]?).map (·.type)=some 22:=by kernel_rfl
theorem tabD{H:Type}:(Rows.laid_math_bits_deBruijn64tab:DataW H)= .agg (Lib.deBruijn64tab.map fun(n:Nat)=> .lit (.int .u8 (n:Int))):=rfl
theorem cTab:prog.cellsOf 5=1:=by kernel_rfl
theorem door_met(os:Os)(args:Array Value):laidMetH prog [("math/bits.deBruijn64tab",Rows.laid_math_bits_deBruijn64tab)] ((World.doorLaid prog 400 os).forCall (fun _ _=>0) ⟨#[],args,[]⟩).memory:=
 laidMetH_of_parts3 (fuel:=8) (laidMet_of_run' 8 kr kr) kr kr
theorem zit{H:Type}{a b:Int}(h:(DataW.lit (.int .u8 a):DataW H)= .lit (.int .u8 b)):a=b:=by
 have h1:(Lit.int .u8 a)= .int .u8 b:=DataW.lit.inj h
 exact(Lit.int.inj h1).2
theorem tb_of_laid{W:World}(h:laidMetH prog [("math/bits.deBruijn64tab",Rows.laid_math_bits_deBruijn64tab)] W):Tb W:=by
 rw [MakeChecks.laidMetH_plain _ _ _ kr]at h
 obtain⟨ps,⟨g0,t0,cs0,f0,p0,q0,hg0,ht0,hv0,hd0,_,_⟩,_,_⟩:=h
 obtain rfl:=Option.some.inj (gTab.symm.trans hg0)
 obtain rfl:=Option.some.inj (tTab.symm.trans ht0)
 obtain⟨xs,m,rfl,hx,hlen,hn,hel⟩:=DataW.trod_array underlying22 hd0
 simp only [Prod.mk.injEq]at hx
 rw [tabD]at hx
 have hxs:xs.map (·.1)=Lib.deBruijn64tab.map fun(n:Nat)=>(.lit (.int .u8 (n:Int))):=(DataW.agg.inj hx.1).symm
 intro j hj
 have hj64:j<64:=hj
 have h1:=hel j hj64
 rw [cTab,Nat.mul_one]at h1
 rw [World.var?_cell hg0 hv0 j]
 have hxj:∃x,xs[j]? =some x:=⟨_,List.getElem?_eq_getElem om⟩
 obtain⟨x,hx1⟩:=hxj
 rw [hx1]at h1
 obtain⟨k,e1,e2,_⟩:=DataW.trod_int underlying5 h1
 have h2:=congrArg (·[j]?) hxs
 simp only [List.getElem?_map,hx1,Option.map_some]at h2
 rw [List.getElem?_eq_getElem hj]at h2
 simp only [Option.map_some,Option.some.injEq]at h2
 rw [e2]at h2
 have hk:k=((Lib.deBruijn64tab[j]:Nat):Int):=zit h2
 have h3:cs0.toList[j]? =some (.int .u8 k):=by
  have:=congrArg (·[0]?) e1
  simpa [List.getElem?_take,List.getElem?_drop]using this
 rw [Array.getElem?_toList]at h3
 rw [h3,hk,List.getD_eq_getElem?_getD,List.getElem?_eq_getElem hj]
 rfl
end
section
open Go.RowKit Go.Sort
structure RowAt (w:World) (g:Nat) (T:TypeId) (cs:Array Value):Prop where
 heap:w.heap[g]? =some (.cells cs T (0,0))
section
variable {w w' w0:World} {g b B:Nat} {T:TypeId} {cs:Array Value}
theorem RowAt.lt(h:RowAt w g T cs):g<w.heap.size:=(Array.getElem?_eq_some_iff.1 h.heap).1
theorem RowAt.cell(h:RowAt w g T cs)(i:Nat):w.cell? ⟨g,i,none⟩=cs[i]?:=by simp only [World.cell?,h.heap];rfl
theorem RowAt.frozen(h:RowAt w g T cs)(i:Nat):w.frozen? ⟨g,i,none⟩=false:=by simp [World.frozen?,h.heap]
theorem RowAt.below(h:RowAt w g T cs)(hb:Below w.heap.size w w'):RowAt w' g T cs:=⟨(hb.block g h.lt).trans h.heap⟩
theorem RowAt.belowB(h:RowAt w g T cs)(hb:Below B w w')(hg:g<B):RowAt w' g T cs:=⟨(hb.block g hg).trans h.heap⟩
theorem RowAt.alloc(h:RowAt w g T cs)(o:Obj):RowAt (w.alloc o) g T cs:=⟨(Below.heap_alloc _ _ _ h.lt).trans h.heap⟩
theorem RowAt.drewN(h:RowAt w g T cs)(n:Nat):RowAt (w.drewN n) g T cs:=⟨h.heap⟩
theorem RowAt.new(w:World)(cs:Array Value)(T:TypeId):RowAt (w.alloc (.cells cs T)) w.heap.size T cs:=⟨heap_alloc_new _ _⟩
theorem RowAt.grown{row:Option Nat}(h:RowAt w g T cs)(hg:w.grownBy w' row)(hr:∀k,row=some k→k≠g):RowAt w' g T cs:=
 ⟨(hg.block g h.lt (fun e=>hr g e.symm rfl)).trans h.heap⟩
theorem PosAt.grown{c:Nat→Int}{row:Option Nat}(h:PosAt w g c)(hg:w.grownBy w' row)(hr:∀k,row=some k→k≠g):PosAt w' g c:=
 ⟨(hg.block g h.lt (fun e=>hr g e.symm rfl)).trans h.heap⟩
theorem Put.row(h:Put g w w')(hp:RowAt w b T cs)(hne:b≠g):RowAt w' b T cs:=⟨(h.block b hne).trans hp.heap⟩
theorem Put.grown(h:Put g w w'):w.grownBy w' (some g):=⟨h.os,h.tape,h.output,Nat.le_of_eq h.size.symm,fun k _ hne=>h.block k (fun e=>hne (by rw [e]))⟩
theorem Put.owns{base:Nat}{e:TypeId}{size:Nat}{v:Value}{n:Nat}{xs:List Value}(h:Put g w w')(ho:w.ownsRow base e size v n xs)(hne:v.ownBlock≠some g):w'.ownsRow base e size v n xs:=
 ho.kept h.grown (.inr hne)
theorem below_grown(h:Below w.heap.size w w'):w.grownBy w' none:=⟨h.os,h.tape,h.output,h.size,fun k hk _=>h.block k hk⟩
theorem zq{base:Nat}{e:TypeId}{size:Nat}{v:Value}{n:Nat}{xs:List Value}(ho:w.ownsRow base e size v n xs)(h:Below w.heap.size w w'):w'.ownsRow base e size v n xs:=
 ho.kept (below_grown h) (by cases hv:v.ownBlock<;>simp)
theorem zas{P:Program}(i:Nat)(ty:TypeId)(v:Value)(h1:v.oneCell'=true)(hp:RowAt w g T cs)(hi:i<cs.size)(hs:(P.info? ty).map (·.size)=some 1):
  (storeVar ty ⟨g,i,none⟩ v).run P w= .ok () (w.setCell ⟨g,i,none⟩ v):=by
 have h2:(store ⟨g,i,none⟩ v).run P w= .ok () (w.setCell ⟨g,i,none⟩ v):=by
  rw [run_store _ w _ _ _ h1,hp.cell,Array.getElem?_eq_getElem hi]
  simp [hp.frozen i]
 have hc:v.cells= #[v]:=by cases v<;>first|rfl|cases h1
 cases hq:P.info? ty with
 |none=>simp [hq]at hs
 |some j=>
  have hj:j.size=1:=by simpa [hq]using hs
  simp [storeVar,sizeOf,typeInfo,hq,hj,hc,storeCells,Addr.add,h2]
theorem RowAt.setCell(hp:RowAt w g T cs)(i:Nat)(v:Value):RowAt (w.setCell ⟨g,i,none⟩ v) g T (cs.setIfInBounds i v):=
 ⟨by rw [setCell_eq_setRow w g i cs _ (0,0) _ hp.heap,setRow_heap w g cs _ _ _ hp.heap]⟩
end
section
variable {P:Program} {ops:Array Oper} {rest:List Oper} {o:Oper} {a:Act} {w:World} {Q:Exit→Act→World→Prop}
theorem zY(hgd:o.guard=none)(ty:TypeId)(x y:Operand)(ho:o.op= .store ty x y)
  (h:∃(g i:Nat) (T:TypeId) (cs:Array Value) (v:Value),a.eval x= .pointer (some ⟨g,i,none⟩)∧a.eval y=v∧v.oneCell'=true∧RowAt w g T cs∧i<cs.size∧(P.info? ty).map (·.size)=some 1∧
   ∀W':World,Put g w W'→RowAt W' g T (cs.setIfInBounds i v)→wpList P ops Q rest (a.put o.dst undef) W'):wpList P ops Q (o::rest) a w:=by
 obtain⟨g,i,T,cs,v,hx,hy,h1,hp,hi,hs,h⟩:=h
 refine wpList_plain hgd fun _ hK=> ?_
 unfold Oper.wp execOp
 simp only [ho,hx,hy,Instr.storeAt,Instr.sureAddr,Sem.run_bind,Sem.run_pure,Result.andThen_ok,zas i ty v h1 hp hi hs]
 exact hK _ _ (h _ (zN w g i _) (hp.setCell i v))
theorem zb(hgd:o.guard=none)(ty:TypeId)(x y:Operand)(ho:o.op= .store ty x y)
  (h:∃(g:Nat) (T:TypeId) (cs:Array Value),a.eval x= .pointer (some ⟨g,0,none⟩)∧a.eval y= .agg cs∧(∃old,w.heap[g]? =some (.cells old T (0,0))∧old.size=cs.size)∧(P.info? ty).map (·.size)=some cs.size∧cs.all (·.oneCell')=true∧
   ∀W':World,Put g w W'→RowAt W' g T cs→wpList P ops Q rest (a.put o.dst undef) W'):wpList P ops Q (o::rest) a w:=by
 obtain⟨g,T,cs,hx,hy,⟨old,hg,hs⟩,hi,h1,h⟩:=h
 exact wpList_store_row hgd _ x y ho g cs hx hy _ old hg hi hs h1 (h _ (zcv _ _ _) ⟨setRow_heap _ _ _ _ _ _ hg⟩)
theorem zj(hgd:o.guard=none)(ty:TypeId)(x:Operand)(ho:o.op= .load ty x){d:TypeDesc}(hu:P.underlying ty=some d)(hd:(match d with| .struct _| .array _ _=>true|_=>false)=true)
  (h:∃(g:Nat) (T:TypeId) (cs:Array Value),a.eval x= .pointer (some ⟨g,0,none⟩)∧RowAt w g T cs∧(P.info? ty).map (·.size)=some cs.size∧wpList P ops Q rest (a.put o.dst (.agg cs)) w):wpList P ops Q (o::rest) a w:=by
 obtain⟨g,T,cs,hx,hp,hi,h⟩:=h
 exact wpList_load_row hgd ty x ho g hx T cs (0,0) d hp.heap hu hd hi h
theorem z8(hgd:o.guard=none)(ty:TypeId)(x:Operand)(ho:o.op= .load ty x){d:TypeDesc}(hu:P.underlying ty=some d)(hd:d.isRow=true)
  (h:∃(b off:Nat) (cs:List Value),a.eval x= .pointer (some ⟨b,off,none⟩)∧w.rangeAt b off cs∧(P.info? ty).map (·.size)=some cs.length∧wpList P ops Q rest (a.put o.dst (.agg cs.toArray)) w):wpList P ops Q (o::rest) a w:=by
 obtain⟨b,off,cs,hx,hp,hi,h⟩:=h
 exact wpList_load_mid hgd ty x ho b off hx cs d hp hu hd hi h
end
section
variable {P:Program} {ops:Array Oper} {Q:Exit→Act→World→Prop} {md:Region.Mode} {S:World→Prop} {fuel:Nat} {listed:Array Bool} {a:Act} {w:World}
theorem getD_some{i:Nat}(h:Nat.blt i ops.size=true):ops[i]? =some (ops.getD i default):=by
 have hlt:i<ops.size:=by simpa using h
 rw [Array.getElem?_eq_getElem hlt,Array.getD_eq_getD_getElem?,Array.getElem?_eq_getElem hlt];rfl
theorem takeD(i:Nat)(d:Option Tmp)(v:Value)(ho:Nat.blt i ops.size=true)(hd:(ops.getD i default).dst=d)
  (hs:Region.noSelect ops=true) (hf:Region.free md ops listed i=true) (hr:(Region.ready md ops listed).contains i=true)
  (hQ:∀c a w,Q (.panic c) (a.put d v) w→Q (.panic c) a w) (hy:YieldsIf P ops S (ops.getD i default) v a) (hS:S w)
  (h:wpAnyH P md ops Q S fuel (listed.setIfInBounds i true) (a.put d v) w):wpAnyH P md ops Q S (fuel+1) listed a w:=by
 subst hd
 exact wpAnyH_take (getD_some ho) hs hf hr hQ hy hS h
theorem takeOne(i:Nat)(ho:Nat.blt i ops.size=true)(hr:Region.ready md ops listed=[i])(hw:Region.wanted (ops.getD i default) (yielded ops a.tmps)=true)
  (h:(ops.getD i default).wp P a w (fun a' w'=>S w'∧wpAnyH P md ops Q S fuel (listed.setIfInBounds i true) a' w') Q):wpAnyH P md ops Q S (fuel+1) listed a w:=
 wpAnyH_all hr sp fun j hj=>by
  obtain rfl:j=i:=by simpa using hj
  unfold wpOp
  rw [getD_some ho]
  simp only [hw,if_true]
  exact .inl h
theorem zo{o:Oper}{v v0:Value}(hw:Region.wanted o (yielded ops a.tmps)=true)(h:∀w,(execOp a.eval o).run P w= .ok (.value v0) w)(hv:v0=v):YieldsIf P ops S o v a:=
 .inl ⟨hw,fun w _=>by rw [h w,hv]⟩
theorem zt{o:Oper}{v:Value}(hw:Region.wanted o (yielded ops a.tmps)=true)(ty:TypeId)(x:Operand)(ho:o.op= .load ty x)(p:Addr)(hx:a.eval x= .pointer (some p))
  (hl:∀(w:World),w.cell? p=some v→(loadVar ty p).run P w= .ok v w) (hS:∀w,S w→w.cell? p=some v):YieldsIf P ops S o v a:=
 .inl ⟨hw,fun w h=>by
  unfold execOp
  simp only [ho,hx,Instr.loadAt,Instr.sureAddr,Sem.run_bind,Sem.run_pure,Result.andThen_ok,hl w (hS w h)]⟩
end
theorem zV(p:Addr)(v:Value)(w:World)(h:w.cell? p=some v):(loadVar 5 p).run prog w= .ok v w:=by
 simp [go_sem,h]
theorem zK(p:Addr)(v:Value)(w:World)(h:w.cell? p=some v):(loadVar 26 p).run prog w= .ok v w:=by
 simp [go_sem,h]
section
variable {P:Program} {ops:Array Oper} {Q:Exit→Act→World→Prop} {md:Region.Mode} {S:World→Prop} {fuel:Nat} {listed:Array Bool} {a:Act} {w:World}
theorem takeCall(i:Nat)(d:Option Tmp)(f:FuncId)(args:Array Value)(v:Value)(R:World→Prop)(ho:Nat.blt i ops.size=true)(hr:Region.ready md ops listed=[i])(hw:Region.wanted (ops.getD i default) (yielded ops a.tmps)=true)
  (hd:(ops.getD i default).dst=d) (he:(execOp a.eval (ops.getD i default)).run P w= .ok (.enter f args) w)
  (hc:Calls P f args w fun e w'=>e= .returned v∧R w') (h:∀w',R w'→S w'∧wpAnyH P md ops Q S fuel (listed.setIfInBounds i true) (a.put d v) w'):wpAnyH P md ops Q S (fuel+1) listed a w:=by
 refine takeOne i ho hr hw ?_
 unfold Oper.wp
 rw [he]
 show Calls P f args w _
 refine hc.mono ?_
 rintro e w' ⟨rfl,hR⟩
 rw [hd]
 exact h w' hR
end
theorem sA{α:Type _}(xs:List α)(i:Nat)(a:α):xs.toArray.setIfInBounds i a=(xs.set i a).toArray:=List.setIfInBounds_toArray ..
theorem sB{α:Type _}(x:α)(xs:List α)(n:Nat)(a:α):(x::xs).set (n+1) a=x::xs.set n a:=rfl
theorem sC{α:Type _}(x:α)(xs:List α)(a:α):(x::xs).set 0 a=a::xs:=rfl
section
variable {P:Program} {ops:Array Oper} {Q:Exit→Act→World→Prop} {md:Region.Mode} {S:World→Prop} {fuel:Nat} {listed:Array Bool} {a:Act} {w:World}
theorem tD(i:Nat)(d:Option Tmp)(v:Value)(hy:YieldsIf P ops S (ops.getD i default) v a)(hS:S w)
  (h:wpAnyH P md ops Q S fuel (listed.setIfInBounds i true) (a.put d v) w) (ho:Nat.blt i ops.size=true:=by kernel_rfl) (hd:(ops.getD i default).dst=d:=by kernel_rfl)
  (hs:Region.noSelect ops=true:=by kernel_rfl) (hf:Region.free md ops listed i=true:=by kernel_rfl) (hr:(Region.ready md ops listed).contains i=true:=by kernel_rfl)
  (hQ:∀c a w,Q (.panic c) (a.put d v) w→Q (.panic c) a w:=by exact fun _ _ _ h=>h):wpAnyH P md ops Q S (fuel+1) listed a w:=
 takeD i d v ho hd hs hf hr hQ hy hS h
theorem tP(i:Nat)(d:Tmp)(v:Value)(hS:S w)
  (h:wpAnyH P md ops Q S fuel (listed.setIfInBounds i true) (a.put (some d) v) w) (ho:Nat.blt i ops.size=true:=by kernel_rfl) (hd:(ops.getD i default).dst=some d:=by kernel_rfl)
  (hs:Region.noSelect ops=true:=by kernel_rfl) (hf:Region.free md ops listed i=true:=by kernel_rfl) (hr:(Region.ready md ops listed).contains i=true:=by kernel_rfl)
  (hQ:∀c a w,Q (.panic c) (a.put (some d) v) w→Q (.panic c) a w:=by exact fun _ _ _ h=>h)
  (hw:Region.wanted (ops.getD i default) (yielded ops a.tmps)=true:=by kernel_rfl) (he:∀w,(execOp a.eval (ops.getD i default)).run P w= .ok (.value v) w:=by exact fun _=>by kernel_rfl):wpAnyH P md ops Q S (fuel+1) listed a w:=
 takeD i (some d) v ho hd hs hf hr hQ (zo hw he rfl) hS h
theorem tC(i:Nat)(d:Option Tmp)(f:FuncId)(args:Array Value)(v:Value)(R:World→Prop)
  (hc:Calls P f args w fun e w'=>e= .returned v∧R w') (h:∀w',R w'→S w'∧wpAnyH P md ops Q S fuel (listed.setIfInBounds i true) (a.put d v) w')
  (ho:Nat.blt i ops.size=true:=by kernel_rfl) (hr:Region.ready md ops listed=[i]:=by kernel_rfl) (hw:Region.wanted (ops.getD i default) (yielded ops a.tmps)=true:=by kernel_rfl)
  (hd:(ops.getD i default).dst=d:=by kernel_rfl) (he:(execOp a.eval (ops.getD i default)).run P w= .ok (.enter f args) w:=by kernel_rfl):wpAnyH P md ops Q S (fuel+1) listed a w:=
 takeCall i d f args v R ho hr hw hd he hc h
end
theorem rB{P:Program}{id:Nat}{Q:Exit→Act→World→Prop}{a:Act}{w:World}{l:List Oper}
  (h:wpQuiet P l.toArray (fun w'=>∃p:Regrown,w'=grow (redrawn w p.d) p.os) (fun a'=>∀w',Below w.heap.size w w'→Q .normal a' w') l a) (hm:P.follows .mixedOrders=true:=by kernel_rfl) (hB:Region.lexB .any l.toArray=true:=by kernel_rfl):(Code.region id l.toArray true).wp P Q a w:=
 zal hm hB h
end
section
open Go.RowKit Go.Sort
variable {P:Program} {ops:Array Oper} {Q:Exit→Act→World→Prop} {md:Region.Mode} {S:World→Prop} {fuel:Nat} {listed l':Array Bool} {a a':Act} {w:World}
theorem td (i:Nat) (d:Option Tmp) (v:Value) (hy:YieldsIf P ops S (ops.getD i default) v a) (hS:S w)
  (h:wpAnyH P md ops Q S fuel l' a' w) (ha:a.put d v = a':=by simp only [Act.put,sA,sB,sC];exact rfl) (hl:listed.setIfInBounds i true = l':=by simp only [sA,sB,sC];exact rfl) (ho:Nat.blt i ops.size = true:=by kernel_rfl) (hd:(ops.getD i default).dst = d:=by kernel_rfl)
  (hs:Region.noSelect ops = true:=by kernel_rfl) (hf:Region.free md ops listed i = true:=by kernel_rfl) (hr:(Region.ready md ops listed).contains i = true:=by kernel_rfl)
  (hQ:∀ c a w,Q (.panic c) (a.put d v) w → Q (.panic c) a w:=by exact fun _ _ _ h=>h):wpAnyH P md ops Q S (fuel + 1) listed a w :=
 takeD i d v ho hd hs hf hr hQ hy hS (by subst ha hl;exact h)
theorem tp (i:Nat) (d:Tmp) (v:Value) (hS:S w)
  (h:wpAnyH P md ops Q S fuel l' a' w) (ha:a.put (some d) v = a':=by simp only [Act.put,sA,sB,sC];exact rfl) (hl:listed.setIfInBounds i true = l':=by simp only [sA,sB,sC];exact rfl) (ho:Nat.blt i ops.size = true:=by kernel_rfl) (hd:(ops.getD i default).dst = some d:=by kernel_rfl)
  (hs:Region.noSelect ops = true:=by kernel_rfl) (hf:Region.free md ops listed i = true:=by kernel_rfl) (hr:(Region.ready md ops listed).contains i = true:=by kernel_rfl)
  (hQ:∀ c a w,Q (.panic c) (a.put (some d) v) w → Q (.panic c) a w:=by exact fun _ _ _ h=>h)
  (hw:Region.wanted (ops.getD i default) (yielded ops a.tmps) = true:=by kernel_rfl) (he:∀ w,(execOp a.eval (ops.getD i default)).run P w = .ok (.value v) w:=by exact fun _=>by kernel_rfl):wpAnyH P md ops Q S (fuel + 1) listed a w :=
 takeD i (some d) v ho hd hs hf hr hQ (zo hw he rfl) hS (by subst ha hl;exact h)
theorem tc (i:Nat) (d:Option Tmp) (f:FuncId) (args:Array Value) (v:Value) (R:World→Prop)
  (hc:Calls P f args w fun e w'=>e = .returned v ∧ R w') (h:∀ w',R w' → S w' ∧ wpAnyH P md ops Q S fuel l' a' w') (ha:a.put d v = a':=by simp only [Act.put,sA,sB,sC];exact rfl) (hl:listed.setIfInBounds i true = l':=by simp only [sA,sB,sC];exact rfl)
  (ho:Nat.blt i ops.size = true:=by kernel_rfl) (hr:Region.ready md ops listed = [i]:=by kernel_rfl) (hw:Region.wanted (ops.getD i default) (yielded ops a.tmps) = true:=by kernel_rfl)
  (hd:(ops.getD i default).dst = d:=by kernel_rfl) (he:(execOp a.eval (ops.getD i default)).run P w = .ok (.enter f args) w:=by kernel_rfl):wpAnyH P md ops Q S (fuel + 1) listed a w :=
 takeCall i d f args v R ho hr hw hd he hc (by subst ha hl;exact h)
end
end Go.Proofs.YtbakeajgolhkgaaGreatDoor
