import Derived.Test.YtbakeajgolhkgaaGreatDoorSb
set_option maxRecDepth 100000
set_option maxHeartbeats 8000000
open Go.Lib (hid)
namespace Go.Proofs.YtbakeajgolhkgaaGreatDoor
open Go.Proofs.Tryz
open Go.RowKit Go.Sort
attribute [local go_sem] Oper.semAt_some
theorem wpIn_load_midS{F:Fence}(hF:∀f,F.fn f){P:Program}{n:Nat}{ops:Array Oper}{rest:List Oper}{o:Oper}{a:Act}{w:World}{Q:Exit→Act→World→Prop}(hgd:o.guard=none)(ty:TypeId)(x:Operand)(ho:o.op= .load ty x){d:TypeDesc}(hu:P.underlying ty=some d)(hd:d.isRow=true)
  (h:∃(b off:Nat) (cs:List Value),a.eval x= .pointer (some ⟨b,off,none⟩)∧w.rangeAt b off cs∧(P.info? ty).map (·.size)=some cs.length∧wpListIn F n P ops Q rest (a.put o.dst (.agg cs.toArray)) w):wpListIn F n P ops Q (o::rest) a w:=by
 obtain⟨b,off,cs,hx,hp,hi,h⟩:=h
 refine wpListIn_plain hgd fun K hK=> ?_
 refine⟨fun _ _=>hF _,?_⟩
 rw [Oper.semAt_eq F.round a.eval o (by simp [ho])]
 unfold execOp
 simp only [ho,hx,Instr.loadAt,Instr.sureAddr,Sem.run_bind,Sem.run_pure,Result.andThen_ok,run_loadVar_mid w b off ty cs d hp hu hd hi]
 exact hK _ _ h
theorem wpIn_buildSliceS{F:Fence}(hF:∀f,F.fn f){P:Program}{n:Nat}{ops:Array Oper}{rest:List Oper}{o:Oper}{a:Act}{w:World}{Q:Exit→Act→World→Prop}(hgd:o.guard=none)(t e:TypeId)(len:Nat)(parts:Array (Nat×Operand))(ho:o.op= .buildSlice t len parts)
  (cells:Array Value) (ie:TypeInfo) (z:Value)
  (hu:P.underlying t=some (.slice e)) (hie:P.info? e=some ie) (hz:ie.zero=some z) (hsmall:¬len*ie.size>2 ^ 24) (hpos:¬len*ie.size=0)
  (hf:Instr.fill (fun i=>some (i*ie.size,ie.size)) ((Array.range (len*ie.size)).map (z.cells[· % z.cells.size]!)) (parts.map fun(i,x)=>(i,a.eval x)).toList=some cells)
  (h:wpListIn F n P ops Q rest (a.put o.dst (.slice (some ⟨w.heap.size,0,none⟩) len len)) (w.alloc (.cells cells e))):wpListIn F n P ops Q (o::rest) a w:=by
 refine wpListIn_plain hgd fun K hK=> ?_
 refine⟨fun _ _=>hF _,?_⟩
 rw [Oper.semAt_eq F.round a.eval o (by simp [ho])]
 unfold execOp
 simp only [ho,Sem.run_bind,run_buildSlice w t _ len _ cells ie z hu hie hz hsmall hpos hf,Result.andThen_ok]
 exact hK _ _ h
theorem wpIn_load_midR{l0:Nat}{P:Program}{n:Nat}{ops:Array Oper}{rest:List Oper}{o:Oper}{a:Act}{w:World}{Q:Exit→Act→World→Prop}(hgd:o.guard=none)(ty:TypeId)(x:Operand)(ho:o.op= .load ty x){d:TypeDesc}(hu:P.underlying ty=some d)(hd:d.isRow=true)
  (h:∃(b off:Nat) (cs:List Value),a.eval x= .pointer (some ⟨b,off,none⟩)∧w.rangeAt b off cs∧(P.info? ty).map (·.size)=some cs.length∧wpListIn (Fence.wide.inRound l0) n P ops Q rest (a.put o.dst (.agg cs.toArray)) w):wpListIn (Fence.wide.inRound l0) n P ops Q (o::rest) a w:=
 wpIn_load_midS (F:=Fence.wide.inRound l0) (fun _=>trivial) hgd ty x ho hu hd h
theorem wpIn_buildSliceR{l0:Nat}{P:Program}{n:Nat}{ops:Array Oper}{rest:List Oper}{o:Oper}{a:Act}{w:World}{Q:Exit→Act→World→Prop}(hgd:o.guard=none)(t e:TypeId)(len:Nat)(parts:Array (Nat×Operand))(ho:o.op= .buildSlice t len parts)
  (cells:Array Value) (ie:TypeInfo) (z:Value)
  (hu:P.underlying t=some (.slice e)) (hie:P.info? e=some ie) (hz:ie.zero=some z) (hsmall:¬len*ie.size>2 ^ 24) (hpos:¬len*ie.size=0)
  (hf:Instr.fill (fun i=>some (i*ie.size,ie.size)) ((Array.range (len*ie.size)).map (z.cells[· % z.cells.size]!)) (parts.map fun(i,x)=>(i,a.eval x)).toList=some cells)
  (h:wpListIn (Fence.wide.inRound l0) n P ops Q rest (a.put o.dst (.slice (some ⟨w.heap.size,0,none⟩) len len)) (w.alloc (.cells cells e))):wpListIn (Fence.wide.inRound l0) n P ops Q (o::rest) a w:=
 wpIn_buildSliceS (F:=Fence.wide.inRound l0) (fun _=>trivial) hgd t e len parts ho cells ie z hu hie hz hsmall hpos hf h
theorem gback_any(ao:Option Addr)(n cap:Nat)(w:World):cR 79 #[.slice ao n cap] w (.func (.func 167) #[] #[.pointer (some ⟨w.heap.size,0,none⟩)]) fun w'=>w.alloc (.cells #[.slice ao n cap] 92)=w':=by
 go_enter func79,ntmps79
 go_wp2
 go_ret
 exact⟨rfl,rfl⟩
def Sk.down(n:Nat):List Nat:=(List.range n).reverse
theorem Sk.down_succ(n:Nat):Sk.down (n+1)=n::Sk.down n:=by unfold Sk.down;rw [List.range_succ,List.reverse_append];rfl
def Sk.encS(s:Sk.St)(x:Nat):Array Value:= #[.int .i64 (x:Int),.agg (Sk.stepC s x).toArray]
theorem back1_tells(n0 l B0 Bb n cap:Nat)(ao:Option Addr)(s:Sk.St)(J:List Nat→World→Prop)(W:World)(hn0:1≤n0)(hN:n≤1000)(h0:J [] W)
  (hB:Boxed W Bb 92 (.slice ao n cap)) (hR:∀W',Below B0 W W'→∀i,i<n→∃b,ao=some ⟨b,0,none⟩∧W'.rangeAt b (i*7) (Sk.stepC s i))
  (hY:∀(pre:List Nat) (x:Nat) (W1:World),J pre W1→x+pre.length+1=n→YieldAt Fence.wide (n0-1) prog l (Sk.encS s x) W1 fun e W'=>e= .returned (.bool true)∧J (pre++[x]) W'∧KpB B0 Bb W1 W'):
  CallsIn Fence.wide n0 prog 167 #[.func (.yield l) #[] #[],.pointer (some ⟨Bb,0,none⟩)] W fun e W'=>(∃v,e= .returned v)∧∃xs,xs=Sk.down n∧J xs W':=by
 refine callsIn_of_wp func167 rfl trivial ?_ rfl
 simp only [ntmps167,List.size_toArray,List.length_cons,List.length_nil,Nat.reduceAdd,Nat.reduceSub,Array.replicate_succ,Array.replicate_zero,List.push_toArray,List.append_toArray,List.nil_append,List.cons_append]
 have HY:=hid hY
 have HR:=hid hR
 have H0:=hid (And.intro h0 hB)
 have HN:=hid hN
 have hc:=hB.cell
 clear hY hR h0 hB hN
 gi_wp2
 gi_loopw [3] (fun vi wr=>∃(k:Nat) (pre:List Nat),k+pre.length=n∧((k=0∧vi= .int .i64 (-1))∨∃j:Nat,k=j+1∧vi= .int .i64 (j:Int))∧J pre wr∧Boxed wr Bb 92 (.slice ao n cap)∧Hid (pre++Sk.down k=Sk.down n)∧Below B0 W wr)
  (fun vi _=>(intOf vi+1).toNat)
 case atStart=>
  refine⟨n,[],rfl,?_,H0.1,H0.2,hid rfl,Below.refl _ _⟩
  by_cases hz:n=0
  ·subst hz;exact .inl ⟨rfl,congrArg _ (by simp only [wrap64];omega)⟩
  ·refine .inr ⟨n-1,by omega,?_⟩
   have:=HN.out
   congr 1
   simp only [wrap64]
   omega
 case round=>
  obtain⟨k,pre,hk,hkk,hj,hb,HL,hbr⟩:=hrel
  have hcb:=hb.cell
  rcases hkk with⟨rfl,rfl⟩|⟨j,rfl,rfl⟩
  ·have hL:=HL.out
   rw [show Sk.down 0=[]from rfl,List.append_nil]at hL
   have HL2:=hid hL
   clear hL
   gi_wp2
   go_end0
   exact⟨⟨_,rfl⟩,pre,HL2,hj⟩
  ·have hjn:j<n:=by omega
   obtain⟨b,rfl,hr⟩:=HR _ hbr j hjn
   have hyy:=HY pre j wr hj om
   have HC:Hid (Sk.encS s j= #[.int .i64 (j:Int),.agg (Sk.stepC s j).toArray]):=hid rfl
   rw [HC.out]at hyy
   have Hr:=hid hr
   have hlen7:(prog.info? 97).map (·.size)=some (Sk.stepC s j).length:=Sk.size_step
   obtain⟨cs,hcs⟩:∃cs,Sk.stepC s j=cs:=⟨_,rfl⟩
   rw [hcs]at hyy Hr hlen7
   clear HC hcs hr hj
   obtain⟨fn,tmps,assign,body,hy,hR⟩:=hyy
   change(Instr.yield l #[.int .i64 (j:Int),.agg cs.toArray]).run _ _=_ at hy
   have hlt2:(j:Int)<(n:Int):=by omega
   have hge:(0:Int)≤(j:Int):=by omega
   gi_wp2_with (refine wpIn_load_midS (F:=Fence.wide) (fun _=>trivial) rfl 97 _ rfl underlying97 rfl ?_;refine⟨b,j*7,cs,rfl,Hr,hlen7,?_⟩)
   refine hR.mono ?_
   rintro e W3 ⟨rfl,hJ3,hk3⟩
   have hb3:Boxed W3 Bb 92 (.slice (some ⟨b,0,none⟩) n cap):=hk3.2 _ hb
   have HZ:=hid (And.intro hJ3 (And.intro hb3 (hbr.trans hk3.1)))
   clear hJ3 hk3 hb3 hbr hb hcb hy hR
   gi_wp2
   go_roundw
   case rel=>
    refine⟨j,pre++[j],by rw [List.length_append];simp;omega,?_,HZ.1,HZ.2.1,hid (by rw [List.append_assoc];have h:=HL.out;rw [Sk.down_succ]at h;exact h),HZ.2.2⟩
    by_cases hz:j=0
    ·subst hz;exact .inl ⟨rfl,congrArg _ (by simp only [wrap64];omega)⟩
    ·refine .inr ⟨j-1,by omega,?_⟩
     have:=HN.out
     congr 1
     simp only [wrap64]
     omega
   case measure=>
    have:=HN.out
    simp only [intOf,wrap64]
    omega
theorem Sk.info_posS:∃b,(prog.info? 31).map (fun i=>(i.zero,i.size,i.bytes))=some (some (.agg zeroCells31),88,b)∧b≤1000:=⟨120,by kernel_rfl,by decide⟩
theorem Sk.fill_pos(q:Nat→Int):Instr.fill (fun i=>some (i*88,88)) ((Array.range (1*88)).map ((Value.agg zeroCells31).cells[· % (Value.agg zeroCells31).cells.size]!)) [(0,.agg (posC q))]=some (posC q):=by kernel_rfl
theorem Sk.fill_posA(a:Act)(t:Tmp)(i0:TypeInfo)(q:Nat→Int)(hz:i0.size=88)(h:a.eval (.tmp t)= .agg (posC q)):
  Instr.fill (fun i=>some (i*i0.size,i0.size)) ((Array.range (1*i0.size)).map ((Value.agg zeroCells31).cells[· % (Value.agg zeroCells31).cells.size]!)) ((#[(0,Operand.tmp t)]:Array (Nat×Operand)).map fun(i,x)=>(i,a.eval x)).toList=some (posC q):=by
 rw [hz,Array.toList_map]
 show Instr.fill _ _ [(0,a.eval (.tmp t))]=_
 rw [h]
 exact Sk.fill_pos q
theorem Sk.no_big{i0:TypeInfo}(hz:i0.size=88):¬1*i0.size>2 ^ 24∧¬1*i0.size=0:=by rw [hz];decide
def Sk.bk(s:Sk.St)(n:Nat):Nat→Nat→Int:=fun i=>s.pos (n-i)
structure Sk.Po (w:World) (ob Bb:Nat) (s:Sk.St) (n:Nat) (k:Nat) (W:World):Prop where
 out:∃v,Boxed W ob 38 v∧W.ownsRow (w.heap.size+1) 31 88 v (k+1) (Sk.psC (Sk.bk s n) (k+1))
 p:PosAt W w.heap.size (s.pos (n-k))
 it:∃u,Boxed W Bb 92 u
 b:Below w.heap.size w W
theorem Sk.own_oneP{w:World}{base b:Nat}{q:Nat→Int}(h:w.heap[b]? =some (.cells (posC q) 31 (0,0)))(hb:base≤b){s:Sk.St}{n:Nat}(hq:q=s.pos n:=by rfl):w.ownsRow base 31 88 (.slice (some ⟨b,0,none⟩) 1 1) (0+1) (Sk.psC (Sk.bk s n) (0+1)):=by
 subst hq
 have e:Sk.psC (Sk.bk s n) (0+1)=(posC (s.pos n)).toList:=by
  rw [Sk.psC_succ]
  rfl
 rw [e]
 exact⟨by rw [Sk.posC_len],.inr ⟨b,1,posC (s.pos n),rfl,hb,h,Nat.le_refl _,by decide,by rw [zC],by rw [List.take_of_length_le (by rw [Sk.posC_len];omega)]⟩⟩
theorem wpIn_load_posR{l0:Nat}{n:Nat}{ops:Array Oper}{rest:List Oper}{o:Oper}{a:Act}{w:World}{Q:Exit→Act→World→Prop}(hgd:o.guard=none)(x:Operand)(ho:o.op= .load 31 x)(c:Nat→Int)(hx:∃g,a.eval x= .pointer (some ⟨g,0,none⟩)∧PosAt w g c)
  (h:wpListIn (Fence.wide.inRound l0) n prog ops Q rest (a.put o.dst (.agg (posC c))) w):wpListIn (Fence.wide.inRound l0) n prog ops Q (o::rest) a w:=by
 obtain⟨g,hx,hp⟩:=hx
 exact wpIn_load_midR hgd 31 x ho underlying31 rfl ⟨g,0,posL c,hx,A.posR hp,A.posL_info c,h⟩
theorem Sk.owns_base{b b':Nat}{w:World}{e:TypeId}{size n:Nat}{v:Value}{xs:List Value}(hb:b≤b')(h:w.ownsRow b' e size v n xs):w.ownsRow b e size v n xs:=by
 refine⟨h.1,?_⟩
 rcases h.2 with h2|⟨g,cap,cur,h1,h2,h3⟩
 ·exact .inl h2
 ·exact .inr ⟨g,cap,cur,h1,Nat.le_trans hb h2,h3⟩
theorem Sk.zsz:(Value.agg zeroCells31).cells.size=88:=by kernel_rfl
def Sk.poSlots(g:Nat)(w:World)(q:Nat→Int)(ao:Option Addr)(n cap:Nat)(s:Sk.St)(x sb:Nat):Act:=
 {tmps:= #[.pointer (some ⟨g,0,none⟩),undef,.slice none 0 0,.pointer (some ⟨w.heap.size,0,none⟩),.pointer (some ⟨w.heap.size+1+1,0,none⟩),undef,.pointer (some ⟨sb,0,none⟩),.pointer (some ⟨g,0,none⟩),.bool false,.pointer (some ⟨g,0,none⟩),.pointer (some ⟨g,0,none⟩),.pointer (some ⟨g,1,none⟩),.agg (posC q),.agg (posC q),.slice (some ⟨w.heap.size+1,0,none⟩) 1 1,.pointer (some ⟨g,0,none⟩),.pointer (some ⟨g,0,none⟩),.pointer (some ⟨g,90,none⟩),.slice ao n cap,.func (.func 167) #[] #[.pointer (some ⟨w.heap.size+3,0,none⟩)],.int .i64 (x:Int),.agg (Sk.stepC s x).toArray,undef,undef,undef,undef,undef,undef,undef,undef,undef,undef],defers:=[]}
theorem Sk.pos_oneL(c:Nat→Int):∀u∈(posC c).toList,u.oneCell'=true:=fun u hu=>by
 have h:=zaG c
 rw [Array.all_eq_true']at h
 exact h u (by simpa using hu)
theorem Sk.undo_box{base:Nat}{w W:World}{g:Nat}{s:Sk.St}{n x:Nat}(h:Sk.At base w g s n)(hx:x<n)(hb:Below w.heap.size w W)(hp:PosAt W w.heap.size (s.pos (x+1))):
  Calls prog 112 #[.pointer (some ⟨w.heap.size,0,none⟩),.pointer (some ⟨s.lb x,0,none⟩)] W fun e W'=>(∃v,e= .returned v)∧PosAt W' w.heap.size (s.pos x)∧W.grownBy W' (some w.heap.size):=by
 have hf:=h.foot x hx
 refine(h.undo x hx W w.heap.size 0 (posC (s.pos (x+1))) 31 (hf.kg (Sk.Kg.of_below base hb)).2 (fun hF=>by have:=(hf _ hF).1;omega) hp.heap (by rw [zC];omega) (fun i _=>by rw [Nat.zero_add])).mono ?_
 rintro e W' ⟨h1,h2,h3⟩
 refine⟨h1,⟨?_⟩,h3⟩
 rw [h2]
 have e:Lg.setSeg (posC (s.pos (x+1))) 0 (posC (s.pos x)).toList=posC (s.pos x):=Array.ext_getElem? fun i=>by
  rw [Lg.setSeg_get,Sk.posC_len]
  by_cases hi:i<88
  ·rw [if_pos (by rw [zC];omega),Nat.sub_zero,Array.getElem?_toList]
  ·rw [if_neg om,Array.getElem?_eq_none (by rw [zC];omega),Array.getElem?_eq_none (by rw [zC];omega)]
 rw [e]
theorem gpositions_any(base:Nat)(w:World)(g:Nat)(s:Sk.St)(n:Nat)(h:Sk.At base w g s n)(hN:n≤900):
  Calls prog 38 #[.pointer (some ⟨g,0,none⟩)] w fun e w'=>∃v,e= .returned v∧w'.ownsRow w.heap.size 31 88 v (n+1) (Sk.psC s.pos (n+1))∧Below w.heap.size w w':=by
 obtain⟨v,hG,hown⟩:=h.open'
 obtain⟨ao,cap,rfl⟩:=Sk.own_slice hown
 have c0:=hG.made
 have HG:=hid hG
 have HO:=hid hown
 have HA:=hid h
 have HN:=hid hN
 have hgl:=hG.lt
 obtain⟨ib,hi1,hib⟩:=Sk.info_posS
 obtain⟨i0,hi0,hz0,hz1,hz2⟩:=info_parts hi1
 have hu:=underlying38
 clear h hG hown hN hi1
 refine(callsIn_wide (n:=6)).1 ?_
 refine callsIn_of_wp_marks func38 rfl trivial ?_ rfl
 refine wpIn_wide.2 ?_
 simp only [ntmps38,List.size_toArray,List.length_cons,List.length_nil,Nat.reduceAdd,Nat.reduceSub,Array.replicate_succ,Array.replicate_zero,List.push_toArray,List.append_toArray,List.nil_append,List.cons_append]
 go_upto_region 5 with(first
  |(go_at_call 45;refine(zat g _ c0).mono ?_;rintro e w' ⟨rfl,rfl⟩)
  |(refine wpList_load_mid rfl 31 _ rfl g 1 rfl (posC (s.pos n)).toList _ (by first|exact HG.range|exact fun i u hu=>(Below.heap_alloc w _ g hgl▸HG.range i u hu)) underlying31 rfl (zr _) ?_)
  |((with_reducible refine zn rfl _ _ rfl ?_);refine⟨w.heap.size,s.pos n,rfl,rfl,⟨_,heap_alloc_new _ _,by kernel_rfl⟩,?_⟩;intro W1 hP1 hq1;have B1:=hid (hP1.below ((Below.refl w.heap.size w).alloc (Nat.le_refl _) _) (Nat.le_refl _));have Q1:=hid hq1;have hs1:W1.heap.size=w.heap.size+1:=(by rw [hP1.size,World.size_alloc]);have c90:W1.cell? ⟨g,90,none⟩=some (.slice ao n cap):=(World.cell?_of_block (B1.block g hgl)).trans HG.steps;clear hP1 hq1)
  |((with_reducible refine ze rfl _ rfl ?_);refine⟨_,_,rfl,Q1,?_⟩)
  |(refine wpList_buildSlice rfl 38 31 1 _ rfl (posC (s.pos n)) i0 _ hu hi0 hz0 (Sk.no_big hz1).1 (Sk.no_big hz1).2 (Sk.fill_posA _ _ _ _ hz1 rfl) ?_))
 have bO:=Boxed.new (W1.alloc (.cells (posC (s.pos n)) 31)) 38 (.slice (some ⟨w.heap.size+1,0,none⟩) 1 1)
 have hrow:=World.alloc_heap_new W1 (.cells (posC (s.pos n)) 31)
 rw [World.size_alloc,hs1]at bO
 rw [hs1]at hrow
 have hb2:Below w.heap.size w ((W1.alloc (.cells (posC (s.pos n)) 31)).alloc (.cells #[.slice (some ⟨w.heap.size+1,0,none⟩) 1 1] 38)):=(B1.alloc B1.size _).alloc (by rw [World.size_alloc];omega) _
 have hq2:=(Q1.alloc (.cells (posC (s.pos n)) 31)).alloc (.cells #[.slice (some ⟨w.heap.size+1,0,none⟩) 1 1] 38)
 have hrow2:=(Below.heap_alloc (W1.alloc (.cells (posC (s.pos n)) 31)) (.cells #[.slice (some ⟨w.heap.size+1,0,none⟩) 1 1] 38) (w.heap.size+1) (by rw [World.size_alloc];omega)).trans hrow
 have hs2:((W1.alloc (.cells (posC (s.pos n)) 31)).alloc (.cells #[.slice (some ⟨w.heap.size+1,0,none⟩) 1 1] 38)).heap.size=w.heap.size+3:=by simp;omega
 obtain⟨W2,hW2⟩:∃W,(W1.alloc (.cells (posC (s.pos n)) 31)).alloc (.cells #[.slice (some ⟨w.heap.size+1,0,none⟩) 1 1] 38)=W:=⟨_,rfl⟩
 rw [hW2]at bO hb2 hq2 hrow2 hs2⊢
 have c90:W2.cell? ⟨g,90,none⟩=some (.slice ao n cap):=(World.cell?_of_block (hb2.block g hgl)).trans HG.steps
 have H2:=hid (And.intro bO (And.intro hb2 (And.intro hq2 hrow2)))
 clear bO hb2 hq2 hrow hrow2 hW2 B1 Q1
 go_wp2_with (go_at_call 79;refine(gback_any _ _ _ _).mono ?_;rintro e w' ⟨rfl,rfl⟩)
 obtain⟨bO,hb2,hq2,hrow2⟩:=H2.out
 have bB:=Boxed.new W2 92 (.slice ao n cap)
 rw [hs2]at bB
 have hb3:=hb2.alloc hb2.size (.cells #[.slice ao n cap] 92)
 have hq3:=hq2.alloc (.cells #[.slice ao n cap] 92)
 have bO3:=bO.alloc (.cells #[.slice ao n cap] 92)
 have hrow3:=(Below.heap_alloc W2 (.cells #[.slice ao n cap] 92) (w.heap.size+1) om).trans hrow2
 have hs3:(W2.alloc (.cells #[.slice ao n cap] 92)).heap.size=w.heap.size+4:=by simp;omega
 obtain⟨W3,hW3⟩:∃W,W2.alloc (.cells #[.slice ao n cap] 92)=W:=⟨_,rfl⟩
 rw [hW3]at bB hb3 hq3 bO3 hrow3 hs3⊢
 have HI0:Hid (Sk.Po w (w.heap.size+1+1) (w.heap.size+3) s n 0 W3):=hid ⟨⟨_,bO3,Sk.own_oneP hrow3 om⟩,hq3,⟨_,bB⟩,hb3⟩
 have HB3:=hid (And.intro bB hb3)
 clear bO hb2 hq2 hrow2 bB hb3 hq3 bO3 hrow3 hW3 H2 c90
 refine(wpIn_wide (n:=6)).1 ?_
 refine zbZ (gf:=167) (lb:= #[.pointer (some ⟨w.heap.size+3,0,none⟩)]) (fun _ _=>False) (fun _ _ _ h=>h.elim) rfl (enters_of func167 kr rfl) (fun x:Nat=>Sk.encS s x) (fun _=>rfl)
  (fun pre W=>Sk.Po w (w.heap.size+1+1) (w.heap.size+3) s n pre.length W)
  (fun pre x _=>x+pre.length+1=n) (KpB w.heap.size (w.heap.size+3))
  (fun x a' W=>∃sb,RowAt W sb 97 (Sk.stepC s x).toArray∧a'=Sk.poSlots g w (s.pos n) ao n cap s x sb)
  (fun xs=>xs=Sk.down n) (fun _ _ _ _ h=>h.elim) ?gr ?pu (fun _ _ _ _ _ _ h _ _ _=>h) ?ax (fun h k=>⟨h.1.trans k.1,fun o ho=>k.2 o (h.2 o ho)⟩) ?kp (fun W=>⟨Below.refl _ _,fun _ h=>h⟩) ?iter HI0 ?assign ?body ?done
 case gr=>
  rintro pre W W' ⟨⟨v,hv,hr⟩,hq,⟨u,hu⟩,hb⟩ hb'
  exact⟨⟨v,(hb'.block _ hv.lt).trans hv,hr.kept (below_grown hb') (by cases v.ownBlock<;>simp)⟩,hq.below hb',⟨u,(hb'.block _ hu.lt).trans hu⟩,za hb hb'⟩
 case pu=>
  rintro pre W l o o' ⟨⟨v,hv,hr⟩,hq,⟨u,hu⟩,hb⟩ hl ho hn
  have ne:∀{B:Nat} {t:TypeId} {x:Value},Boxed W B t x→some B≠some l:=fun hx e=>by cases e;rw [show W.heap[_]? =_ from hx]at ho;cases ho;cases hn
  exact⟨⟨v,hv.kept (grownBy_putObj' W l o') (ne hv),ownsRow_putObj hr o' ho hn⟩,⟨(World.putObj_heap_other (by intro e;subst e;rw [hq.heap]at ho;cases ho;cases hn)).trans hq.heap⟩,⟨u,hu.kept (grownBy_putObj' W l o') (ne hu)⟩,hb.grown (grownBy_putObj' W l o') hb.size (fun k e=>by cases e;omega)⟩
 case ax=>
  rintro x a' W l o1 o' ⟨sb,hm,rfl⟩ hl ho hn
  exact⟨sb,⟨(World.putObj_heap_other (by intro e;subst e;rw [hm.heap]at ho;cases ho;cases hn)).trans hm.heap⟩,rfl⟩
 case kp=>
  rintro W W1 l o o' h hl ho hn
  exact⟨h.1.grown (grownBy_putObj' W1 l o') (by have:=(Array.getElem?_eq_some_iff.1 ho).1;omega) (fun k e=>by cases e;omega),fun o2 h2=>(World.putObj_heap_other om).trans (h.2 o2 h2)⟩
 case iter=>
  intro l J W hW _ _ h0 hY
  refine back1_tells 5 l w.heap.size (w.heap.size+3) n cap ao s J W om (by have:=HN.out;omega) h0 ((hW.block _ HB3.1.lt).trans HB3.1) (fun W' hb i hi=> ?_) hY
  obtain⟨b,rfl,_⟩:=Sk.own_cells HO om
  exact⟨b,rfl,Sk.own_step HO om (HB3.2.trans ((hW.mono om).trans hb)) hi⟩
 case assign=>
  intro l pre x W Kk hI hx hK
  have HI:=hid hI
  have HK:=hid hK
  have HE:Sk.stepC s x=Sk.stepL (s.mv x) (H.key (s.pos (x+1))) (s.lb x):=rfl
  obtain⟨⟨f',t',p',d',ca'⟩,hm⟩:∃m:Mv,s.mv x=m:=⟨_,rfl⟩
  obtain⟨ky,hky⟩:∃y,H.key (s.pos (x+1))=y:=⟨_,rfl⟩
  obtain⟨lb,hlb⟩:∃y,s.lb x=y:=⟨_,rfl⟩
  rw [hm,hky,hlb]at HE
  replace HE:Sk.stepC s x=[.int .i8 f',.int .i8 t',.int .u8 p',.int .u8 d',.bool ca',.int .u64 (U ky),.func (.func 112) #[] #[.pointer (some ⟨lb,0,none⟩)]]:=HE
  clear hI hK hm hky hlb
  have HE':=hid HE
  simp only [Sk.encS,HE]
  clear HE
  gi_wp2
  have hbn:Below W.heap.size W (W.alloc (.cells #[.int .i8 f',.int .i8 t',.int .u8 p',.int .u8 d',.bool ca',.int .u64 (U ky),.func (.func 112) #[] #[.pointer (some ⟨lb,0,none⟩)]] 97)):=bA
  obtain⟨⟨v,hv,hr⟩,hq,⟨u,hu'⟩,hb⟩:=HI.out
  refine HK _ _ (K.KeepsFrom.of_below hbn) ⟨hbn.mono (by have:=hq.lt;omega),fun o ho=>(hbn.block _ (Array.getElem?_eq_some_iff.1 ho).1).trans ho⟩ ⟨⟨v,(hbn.block _ hv.lt).trans hv,zq hr hbn⟩,hq.below hbn,⟨u,(hbn.block _ hu'.lt).trans hu'⟩,za hb hbn⟩ hx ⟨W.heap.size,?_,?_⟩
  ·rw [HE'.out];exact RowAt.new _ _ _
  ·unfold Sk.poSlots;rw [HE'.out]
 case body=>
  rintro l pre x a' W hl ⟨⟨v,hv,hrow⟩,hq,⟨u,hu'⟩,hB⟩ hx ⟨sb,hm,rfl⟩
  have c6:W.cell? ⟨sb,6,none⟩=some (.func (.func 112) #[] #[.pointer (some ⟨s.lb x,0,none⟩)]):=(hm.cell 6).trans rfl
  have hq':PosAt W w.heap.size (s.pos (x+1)):=by rw [show x+1=n-pre.length by omega];exact hq
  have HU:=hid (Sk.undo_box HA (show x<n by omega) hB hq')
  have HW:=hid (And.intro hv (And.intro hrow (And.intro hu' (And.intro hB hq.lt))))
  have Hl:=hid hl
  simp only [Sk.poSlots]
  obtain⟨cs,hcs⟩:∃cs,(Sk.stepC s x).toArray=cs:=⟨_,rfl⟩
  rw [hcs]
  clear hcs hm hq hq' hv hrow hu' hB hl
  gi_wp2
  refine⟨trivial,(CallsIn.inRound l (callsIn_wide.2 HU)).mono ?_⟩
  rintro e W2 ⟨⟨r,rfl⟩,hq2,hg2⟩
  obtain⟨hv,hrow,hu',hB,hpl⟩:=HW.out
  have hv2:Boxed W2 (w.heap.size+1+1) 38 v:=(hg2.block _ hv.lt (by simp<;>omega)).trans hv
  have hrow2:W2.ownsRow (w.heap.size+1) 31 88 v (pre.length+1) (Sk.psC (Sk.bk s n) (pre.length+1)):=hrow.kept hg2 (.inr (fun e=>by have:=(hrow.lt _ e).1;omega))
  have hu2:Boxed W2 (w.heap.size+3) 92 u:=(hg2.block _ hu'.lt (by simp<;>omega)).trans hu'
  have hc2:=hv2.cell
  have hsz2:=hg2.size
  have HW2:=hid (And.intro hu2 (And.intro hB (And.intro hg2 (And.intro hu' hq2))))
  have Hq2:=hid hq2
  have hn9:=HN.out
  clear hv hrow hu' hB hg2 hu2 c6 hq2
  have hL1:pre.length+1+1≤902:=by omega
  have hL2:pre.length+1+1≤maxLen:=by unfold maxLen;omega
  have hL3:(pre.length+1+1)*ib≤140737488355328:=Nat.le_trans (Nat.mul_le_mul hL1 hib) dc
  have hL4:w.heap.size+1≤(W2.alloc (.cells (posC (s.pos x)) 31)).heap.size:=by rw [World.size_alloc];omega
  have hL5:w.heap.size+1≤W2.heap.size:=by omega
  have hra:=zcW (RowAt.new W2 (posC (s.pos x)) 31)
  gi_wp2_with (first
   |(refine wpIn_load_posR rfl _ rfl (s.pos x) ⟨_,rfl,Hq2⟩ ?_)
   |(refine wpIn_buildSliceR rfl 38 31 1 _ rfl (posC (s.pos x)) i0 _ hu hi0 hz0 (Sk.no_big hz1).1 (Sk.no_big hz1).2 (Sk.fill_posA _ _ _ _ hz1 rfl) ?_)
   |(refine wpListIn_append_own _ rfl _ _ 38 rfl (w.heap.size+1) 31 i0 _ 88 ib hu hi0 hz0 hz1 hz2 Sk.zsz dc v _ _ rfl (hrow2.alloc _) ⟨W2.heap.size,0,none⟩ 1 1 (posC (s.pos x)).toList rfl (by rw [Sk.posC_len]) hra (Sk.pos_oneL _) hL2 hL3 hL4 ?_;intro v' w1 hown' hgrow _;obtain⟨g',cap',rfl⟩:=ownsRow_succ hown';obtain⟨hv1,hv3,hr3,hk3,hb3⟩:=hv2.appended dc hrow2 hL5 (Nat.le_succ _) hown' hgrow;have hc1:=hv1.cell;have hf1:=hv1.frozen;have HZ:=hid (And.intro hv3 (And.intro hr3 (And.intro hk3 (And.intro hb3 hgrow))));clear hv1 hv3 hr3 hk3 hb3 hgrow hown' hra hL1 hL2 hL3 hL4 hL5))
  obtain⟨hv3,hr3,hk3,hb3,hgrow⟩:=HZ.out
  obtain⟨hu2,hB,hg2,hu',hq2⟩:=HW2.out
  have hl:=Hl.out
  have hne:some (w.heap.size+3)≠v.ownBlock:=hu2.not_row dc hrow2
  have hlt2:=hu2.lt
  have hlt0:=hq2.lt
  have hb02:Below w.heap.size W W2:=⟨hg2.os,hg2.tape,hg2.output,hg2.size,fun k hk=>hg2.block k om (by simp<;>omega)⟩
  have hgs:=hgrow.size
  rw [World.size_alloc]at hgs
  have hsame:(w1.setCell ⟨w.heap.size+1+1,0,none⟩ (.slice (some ⟨g',0,none⟩) (pre.length+1+1) cap')).heap[w.heap.size+3]? =W.heap[w.heap.size+3]? :=
   ((grownBy_setCell' w1 (w.heap.size+1+1) _).block _ om (by simp<;>omega)).trans ((hgrow.block _ (by rw [World.size_alloc];omega) hne).trans ((Below.heap_alloc W2 _ _ hlt2).trans (hg2.block _ hu'.lt (by simp<;>omega))))
  have hpos:(w1.setCell ⟨w.heap.size+1+1,0,none⟩ (.slice (some ⟨g',0,none⟩) (pre.length+1+1) cap')).heap[w.heap.size]? =W2.heap[w.heap.size]? :=
   ((grownBy_setCell' w1 (w.heap.size+1+1) _).block _ om (by simp<;>omega)).trans ((hgrow.block _ (by rw [World.size_alloc];omega) (fun e=>by have:=(hrow2.lt _ e.symm).1;omega)).trans (Below.heap_alloc W2 _ _ hlt0))
  have hbf:=hb02.trans (hb3.mono (Nat.le_succ _))
  refine⟨(KeepsFrom.of_grownBy hg2 (fun j e=>by cases e;omega)).trans (hk3.from _),⟨hbf,fun o ho=>hsame.trans ho⟩,⟨⟨_,hv3,?_⟩,⟨?_⟩,⟨u,hsame.trans hu'⟩,hB.trans hbf⟩⟩
  ·rw [Sk.psC_succ (Sk.bk s n) (pre.length+1),show Sk.bk s n (pre.length+1)=s.pos x from by unfold Sk.bk;rw [show n-(pre.length+1)=x by omega]]
   exact hr3
  ·rw [show n-(pre.length+1)=x by omega,hpos];exact hq2.heap
 case done=>
  rintro D xs W hD rfl ⟨⟨v,hv,hrow⟩,hq,⟨u,hu'⟩,hB⟩ hK
  have hdl:(Sk.down n).length=n:=by unfold Sk.down;simp
  rw [hdl]at hrow
  obtain⟨bo,capo,rfl⟩:=ownsRow_succ hrow
  have hc:=hv.cell
  have HRv:=hid (greverse_any (w.heap.size+1) (Sk.bk s n) bo (n+1) capo W om (by have:=HN.out;omega) hrow)
  have hE:Sk.psC (fun k=>Sk.bk s n (n+1-1-k)) (n+1)=Sk.psC s.pos (n+1):=Sk.psC_congr _ fun i hi=>by unfold Sk.bk;rw [show n-(n+1-1-i)=i by omega]
  have HD:=hid (And.intro hv (And.intro hB (And.intro hK (And.intro hrow hE))))
  clear hrow hE hq hu' hB hK
  go_wp2_with (go_at_call 80;(with_reducible refine HRv.out.mono ?_);rintro e W2 ⟨⟨r,rfl⟩,ho2,hg2⟩;obtain⟨hv,hB,hK,hrow,hE⟩:=HD.out;have hv2:Boxed W2 (w.heap.size+1+1) 38 _:=(hg2.block _ hv.lt (hv.not_row dc hrow)).trans hv;have hc2:=hv2.cell;have HQ:=hid (And.intro ho2 hg2);clear ho2 hg2 hv hB hK hrow hE hv2)
  obtain⟨hv,hB,hK,hrow,hE⟩:=HD.out
  obtain⟨ho2,hg2⟩:=HQ.out
  rw [hE]at ho2
  have hbo:=(hrow.lt bo rfl).1
  have hK2:W2.heap[D]? =some (.deferred (some [])):=(hg2.block D (Array.getElem?_eq_some_iff.1 hK).1 (fun e=>by
   obtain⟨cs,hcs⟩:=Sk.own_row hrow (g:=D) e.symm
   rw [hcs.heap]at hK
   cases hK)).trans hK
  have hBf:Below w.heap.size w W2:=hB.grown hg2 hB.size (fun k e=>by cases e;omega)
  refine⟨by simp,.inl ⟨_,_,rfl,run_takeDeferred hK2,?_⟩⟩
  exact⟨_,results_tmp rfl _ _ _,_,rfl,Sk.owns_base (Nat.le_succ _) (ownsRow_putObj ho2 _ hK2 rfl),hBf.grown (grownBy_putObj' W2 D _) hBf.size (fun k e=>by cases e;omega)⟩
end Go.Proofs.YtbakeajgolhkgaaGreatDoor
