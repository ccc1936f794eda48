import Derived.Test.YtbakeajgolhkgaaGreatDoorYas
set_option maxRecDepth 100000
set_option maxHeartbeats 8000000
open Go.Lib (hid)
namespace Go.Proofs.YtbakeajgolhkgaaGreatDoor
open Go.Proofs.Tryz
open Go.RowKit Go.Sort
namespace Sk
def In(arr:Array Value)(o:Nat)(c:Nat→Int):Array Value:=Lg.setSeg arr o (posC c).toList
theorem posC_len(c:Nat→Int):(posC c).toList.length=88:=by simp [posC,posL]
theorem in_size(arr:Array Value)(o:Nat)(c:Nat→Int):(In arr o c).size=arr.size:=Lg.setSeg_size _ _ _
theorem in_get(arr:Array Value)(o:Nat)(c:Nat→Int)(h:o+88≤arr.size)(i:Nat)(hi:i<88):(In arr o c)[o+i]? =some (.int (pk i) (c i)):=by
 unfold In
 rw [Lg.setSeg_get,posC_len,if_pos ⟨⟨by omega,by omega⟩,by omega⟩,Nat.add_sub_cancel_left,Array.getElem?_toList]
 exact zE c i hi
theorem in_out(arr:Array Value)(o:Nat)(c:Nat→Int)(i:Nat)(hi:i<o∨o+88≤i):(In arr o c)[i]? =arr[i]?:=by
 unfold In
 rw [Lg.setSeg_get,posC_len,if_neg om]
theorem in_ext{arr x:Array Value}{o:Nat}{c:Nat→Int}(h:o+88≤arr.size)(hi:∀i,i<88→x[o+i]? =some (.int (pk i) (c i)))(ho:∀i,i<o∨o+88≤i→x[i]? =arr[i]?):x=In arr o c:=by
 apply Array.ext_getElem?
 intro i
 by_cases h1:o≤i∧i<o+88
 ·obtain⟨j,rfl⟩:∃j,i=o+j:=⟨i-o,by omega⟩
  rw [hi j om,in_get _ _ _ h j om]
 ·rw [ho i om,in_out _ _ _ _ om]
theorem in_same{arr:Array Value}{o:Nat}{c:Nat→Int}(h:o+88≤arr.size)(hi:∀i,i<88→arr[o+i]? =some (.int (pk i) (c i))):arr=In arr o c:=in_ext h hi fun _ _=>rfl
theorem in_in(arr:Array Value)(o:Nat)(c d:Nat→Int)(h:o+88≤arr.size):In (In arr o c) o d=In arr o d:=
 in_ext h (fun i hi=>in_get _ _ _ (by rw [in_size];exact h) i hi) (fun i hi=>by rw [in_out _ _ _ _ hi,in_out _ _ _ _ hi])
theorem in_set(arr:Array Value)(o:Nat)(c:Nat→Int)(h:o+88≤arr.size)(i:Nat)(hi:i<88)(k:IntKind)(hk:pk i=k)(x:Int):(In arr o c).setIfInBounds (o+i) (.int k x)=In arr o (upd c i x):=by
 refine in_ext h (fun j hj=> ?_) (fun j hj=> ?_)
 ·rw [Array.getElem?_setIfInBounds]
  by_cases e:i=j
  ·subst e
   rw [if_pos rfl,if_pos (by rw [in_size];omega),hk]
   simp [upd]
  ·rw [if_neg om,in_get _ _ _ h j hj]
   simp [upd,show¬j=i from fun q=>e q.symm]
 ·rw [Array.getElem?_setIfInBounds,if_neg om,in_out _ _ _ _ hj]
def Lies(W:World)(b o:Nat)(T:TypeId)(arr:Array Value)(c:Nat→Int):Prop:=W.heap[b]? =some (.cells (In arr o c) T (0,0))
theorem Lies.cell{W:World}{b o:Nat}{T:TypeId}{arr:Array Value}{c:Nat→Int}(h:Lies W b o T arr c)(ho:o+88≤arr.size)(i j:Nat)(hi:i<88)(k:IntKind)(hk:pk i=k)(e:o+i=j):W.cell? ⟨b,j,none⟩=some (.int k (c i)):=by
 subst hk e
 simp only [World.cell?,show W.heap[b]? =_ from h]
 exact in_get _ _ _ ho i hi
theorem Lies.frozen{W:World}{b o:Nat}{T:TypeId}{arr:Array Value}{c:Nat→Int}(h:Lies W b o T arr c)(j:Nat):W.frozen? ⟨b,j,none⟩=false:=by simp [World.frozen?,show W.heap[b]? =_ from h]
theorem Lies.row{W:World}{b o:Nat}{T:TypeId}{arr:Array Value}{c:Nat→Int}(h:Lies W b o T arr c):RowAt W b T (In arr o c):=⟨h⟩
theorem Lies.lt{W:World}{b o:Nat}{T:TypeId}{arr:Array Value}{c:Nat→Int}(h:Lies W b o T arr c):b<W.heap.size:=(Array.getElem?_eq_some_iff.1 h).1
end Sk
theorem zg1(b o xb sb:Nat)(T:TypeId)(arr:Array Value)(d:Nat→Int)(s:Nat)(x:Int)(W:World)(hs:s<64)(ho:o+88≤arr.size)(hL:Sk.Lies W b o T arr d)(hx:W.cell? ⟨xb,0,none⟩=some (.int .u8 x))(hs':W.cell? ⟨sb,0,none⟩=some (.int .i64 (s:Int))):
  Calls prog 110 #[.pointer (some ⟨b,o,none⟩),.pointer (some ⟨xb,0,none⟩),.pointer (some ⟨sb,0,none⟩)] W fun e W'=>(∃v,e= .returned v)∧Sk.Lies W' b o T arr (upd d (1+s) x)∧W.grownBy W' (some b):=by
 have hc:=hL.cell ho (1+s) (o+1+s) om .u8 (zk hs) om
 have hf:=hL.frozen (o+1+s)
 have hk0:(s:Int)<64:=by omega
 have HL:=hid hL
 have Hs:=hid hs
 clear hL hs
 go_enter func110,ntmps110
 go_region
 first|refine bodyPost_end (results_none rfl _ _ _) rfl ?_|refine bodyPost_ret (results_none rfl _ _ _) rfl ?_
 have hr:=(HL.row.setCell (o+1+s) (.int .u8 x)).heap
 rw [Nat.add_assoc o 1 s,Sk.in_set arr o d ho (1+s) (by have:=Hs.out;omega) .u8 (zk Hs.out)]at hr
 have hg:=(zN W b (o+(1+s)) (.int .u8 x)).grown
 rw [←Nat.add_assoc]at hr hg
 exact⟨⟨_,rfl⟩,hr,⟨hg.os,hg.tape,hg.output,hg.size,hg.block⟩⟩
theorem Sk.put_grown{w W W':World}{b:Nat}(h:w.grownBy W (some b))(hp:Put b W W'):w.grownBy W' (some b):=
 ⟨hp.os.trans h.os,hp.tape.trans h.tape,hp.output.trans h.output,Nat.le_trans h.size (Nat.le_of_eq hp.size.symm),fun k hk hn=>(hp.block k (fun e=>hn (by rw [e]))).trans (h.block k hk hn)⟩
theorem zfK(c:Nat→Int):(bdL c).toArray.all (·.oneCell')=true:=by
 rw [Array.all_eq_true']
 intro v hv
 simp [bdL]at hv
 obtain⟨k,_,rfl⟩:=hv
 rfl
theorem zch(c:Nat→Int):(bdL c).length=64:=by simp [bdL]
theorem zby(c:Nat→Int):(bdL c).toArray.size=64:=zch c
theorem Sk.Lies.bd{W:World}{b o:Nat}{T:TypeId}{arr:Array Value}{c:Nat→Int}(h:Sk.Lies W b o T arr c)(ho:o+88≤arr.size):W.rangeAt b (o+1) (bdL c):=by
 intro j v hv
 by_cases hj:j<64
 ·rw [zc7 c j hj]at hv
  cases hv
  exact h.cell ho (1+j) (o+1+j) om .u8 (zk hj) om
 ·rw [List.getElem?_eq_none (by rw [zch];omega)]at hv;cases hv
theorem Sk.wpl_store_seg{P:Program}{ops:Array Oper}{rest:List Oper}{o:Oper}{a:Act}{w:World}{Q:Exit→Act→World→Prop}(hgd:o.guard=none)(ty:TypeId)(x y:Operand)(ho:o.op= .store ty x y)
  (h:∃(b off:Nat) (T:TypeId) (cur cs:Array Value),a.eval x= .pointer (some ⟨b,off,none⟩)∧a.eval y= .agg cs∧w.heap[b]? =some (.cells cur T (0,0))∧off+cs.size≤cur.size∧(P.info? ty).map (·.size)=some cs.size∧cs.all (·.oneCell')=true∧
   ∀W':World,Put b w W'→W'.heap[b]? =some (.cells (Lg.setSeg cur off cs.toList) T (0,0))→wpList P ops Q rest (a.put o.dst undef) W'):wpList P ops Q (o::rest) a w:=by
 obtain⟨b,off,T,cur,cs,hx,hy,hg,hs,hi,h1,h⟩:=h
 refine wpList_plain hgd fun _ hK=> ?_
 refine wp_store_mid ty x y ho b off cs hx hy (fun j hj=>⟨?_,by simp [World.frozen?,hg]⟩) hi h1 (hK _ _ (h _ (Lg.put_setCellsL b _ _ _) (Lg.heap_setCellsO b _ _ _ _ _ hg)))
 simp only [World.cell?,hg]
 rw [Array.getElem?_eq_getElem om]
 rfl
theorem Sk.in_bd(arr:Array Value)(o:Nat)(c d:Nat→Int)(h:o+88≤arr.size)(hbd:∀s,s<64→d (1+s)=c (1+s)):Lg.setSeg (Sk.In arr o c) (o+1) (bdL d)=Sk.In arr o c:=by
 refine Sk.in_ext h (fun i hi=> ?_) (fun i hi=> ?_)
 ·rw [Lg.setSeg_get,zch,Sk.in_size]
  split
  ·rename_i hh
   obtain⟨j,rfl⟩:∃j,i=1+j:=⟨i-1,by omega⟩
   rw [show o+(1+j)-(o+1)=j by omega,zc7 d j om,hbd j om,zk om]
  ·exact Sk.in_get _ _ _ h i hi
 ·rw [Lg.setSeg_get,zch,if_neg om,Sk.in_out _ _ _ _ hi]
theorem Sk.in_pos(arr:Array Value)(o:Nat)(c d:Nat→Int)(h:o+88≤arr.size):Lg.setSeg (Sk.In arr o d) o (posC c).toList=Sk.In arr o c:=Sk.in_in arr o d c h
theorem zg8(b o wb:Nat)(T:TypeId)(arr:Array Value)(c d:Nat→Int)(W:World)(ho:o+88≤arr.size)(hL:Sk.Lies W b o T arr d)(hw:PosAt W wb c)(hne:wb≠b)(hbd:∀s,s<64→d (1+s)=c (1+s)):
  Calls prog 111 #[.pointer (some ⟨b,o,none⟩),.pointer (some ⟨wb,0,none⟩)] W fun e W'=>(∃v,e= .returned v)∧Sk.Lies W' b o T arr c∧W.grownBy W' (some b):=by
 have HL:=hid hL
 have HW:=hid hw
 clear hL hw
 have HB:=hid hbd
 have HO:=hid ho
 have HN:=hid hne
 have hu:=underlying22
 have hg0:=World.grownBy.refl W (some b)
 have HG0:=hid hg0
 clear hbd ho hne hg0
 go_enter func111,ntmps111
 go_upto_region 1 with(first
  |(refine wpList_load_mid rfl 22 _ rfl b (o+1) rfl (bdL d) _ (HL.bd HO) hu rfl (by rw [infoBd,zch]) ?_)
  |((with_reducible refine zb rfl 22 _ _ rfl ?_);refine⟨W.heap.size,22,(bdL d).toArray,rfl,rfl,⟨_,heap_alloc_new _ _,(by rw [zby];kernel_rfl)⟩,(by rw [zby];exact infoBd),zfK d,?_⟩;intro W1 hP1 hr1;have HR1:=hid hr1;have HP1:=hid hP1;clear hr1 hP1))
 have hN1:W.heap.size≠b:=fun e=>by have:=HL.lt;omega
 have hN2:wb≠W.heap.size:=fun e=>by have:=HW.lt;omega
 have hQ1:PosAt W1 wb c:=HP1.pos (HW.alloc _) hN2
 have HL1:=hid (show Sk.Lies W1 b o T arr d from(HP1.block b (fun e=>hN1 e.symm)).trans ((Below.heap_alloc _ _ _ HL.lt).trans HL))
 have HG1:=hid (show W.grownBy W1 (some b)from⟨HP1.os,HP1.tape,HP1.output,by have:=HP1.size;rw [World.size_alloc]at this;omega,fun k hk _=>(HP1.block k om).trans (Below.heap_alloc _ _ _ hk)⟩)
 clear HP1 hN2
 go_wp2_with (first
  |((with_reducible refine ze rfl _ rfl ?_);refine⟨wb,c,rfl,hQ1,?_⟩)
  |((with_reducible refine Sk.wpl_store_seg rfl 31 _ _ rfl ?_);refine⟨b,o,T,_,posC c,rfl,rfl,HL1,(by rw [zC,Sk.in_size];exact HO.out),zr c,zaG c,?_⟩;intro W2 hP2 hr2;have HL2:=hid (show Sk.Lies W2 b o T arr c from hr2.trans (by rw [Sk.in_pos _ _ _ _ HO.out]));have hr1:=hP2.row HR1 hN1;have HP2:=hid hP2;clear hr2 hP2)
  |((with_reducible refine zj rfl 22 _ rfl hu rfl ?_);refine⟨W.heap.size,22,(bdL d).toArray,rfl,hr1,(by rw [zby];exact infoBd),?_⟩)
  |((with_reducible refine Sk.wpl_store_seg rfl 22 _ _ rfl ?_);refine⟨b,o+1,T,_,(bdL d).toArray,rfl,rfl,HL2,(by rw [zby,Sk.in_size];have:=HO.out;omega),(by rw [zby];exact infoBd),zfK d,?_⟩;intro W3 hP3 hr3;have HL3:=hid (show Sk.Lies W3 b o T arr c from hr3.trans (by rw [Sk.in_bd _ _ _ _ HO.out HB.out]));have HP3:=hid hP3;clear hr3 hP3)
  |fail)
 first|refine bodyPost_end (results_none rfl _ _ _) rfl ?_|refine bodyPost_ret (results_none rfl _ _ _) rfl ?_
 exact⟨⟨_,rfl⟩,HL3,Sk.put_grown (Sk.put_grown HG1 HP2) HP3⟩
namespace Sk
abbrev Sq:=Nat×Nat×Nat
def f1(e:Sq):Value:= .func (.func 110) #[] #[.pointer (some ⟨e.2.1,0,none⟩),.pointer (some ⟨e.2.2,0,none⟩)]
def f2(wb:Nat):Value:= .func (.func 111) #[] #[.pointer (some ⟨wb,0,none⟩)]
def mix(c d:Nat→Int)(l:List Sq):Nat→Int:=l.foldl (fun q e=>upd q (1+e.1) (c (1+e.1))) d
theorem mix_snoc(c d:Nat→Int)(l:List Sq)(e:Sq):mix c d (l++[e])=upd (mix c d l) (1+e.1) (c (1+e.1)):=by unfold mix;rw [List.foldl_append];rfl
theorem mix_at(c d:Nat→Int)(s:Nat):∀(n:Nat) (l:List Sq),l.length=n→mix c d l (1+s)=if∃e∈l,e.1=s then c (1+s)else d (1+s):=by
 intro n
 induction n with
 |zero=>
  intro l hl
  rw [List.eq_nil_of_length_eq_zero hl,if_neg (by rintro⟨e,he,_⟩;cases he)]
  rfl
 |succ n ih=>
  intro l hl
  obtain⟨l',e,rfl⟩:∃l' e,l=l'++[e]:=⟨l.dropLast,l.getLast (by intro h;rw [h]at hl;cases hl),(List.dropLast_concat_getLast _).symm⟩
  have hl':l'.length=n:=by rw [List.length_append]at hl;simpa using hl
  rw [mix_snoc]
  by_cases he:e.1=s
  ·rw [he,if_pos ⟨e,by simp,he⟩];simp [upd]
  ·rw [show upd (mix c d l') (1+e.1) (c (1+e.1)) (1+s)=mix c d l' (1+s) by unfold upd;rw [if_neg om],ih l' hl']
   by_cases h:∃e∈l',e.1=s
   ·obtain⟨x,hx,hxs⟩:=h
    rw [if_pos ⟨x,hx,hxs⟩,if_pos ⟨x,by simp [hx],hxs⟩]
   ·rw [if_neg h,if_neg (by
     rintro⟨x,hx,hxs⟩
     rcases List.mem_append.1 hx with hx|hx
     ·exact h ⟨x,hx,hxs⟩
     ·rw [List.mem_singleton.1 hx]at hxs;exact he hxs)]
theorem mix_all(c d:Nat→Int)(l:List Sq)(h:∀s,s<64→c (1+s)≠d (1+s)→∃e∈l,e.1=s):∀s,s<64→mix c d l (1+s)=c (1+s):=by
 intro s hs
 rw [mix_at c d s _ l rfl]
 split
 ·rfl
 ·rename_i hn
  by_cases e:c (1+s)=d (1+s)
  ·exact e.symm
  ·exact absurd (h s hs e) hn
structure Plan (W:World) (c:Nat→Int) (lb bb wb cap:Nat) (es:List Sq):Prop where
 lst:W.cell? ⟨lb,0,none⟩=some (.slice (some ⟨bb,0,none⟩) (es.length+1) cap)
 sq:∀(i:Nat) e,es[i]? =some e→e.1<64∧W.cell? ⟨bb,i,none⟩=some (f1 e)∧W.cell? ⟨e.2.1,0,none⟩=some (.int .u8 (c (1+e.1)))∧W.cell? ⟨e.2.2,0,none⟩=some (.int .i64 (e.1:Int))
 last:W.cell? ⟨bb,es.length,none⟩=some (f2 wb)
 was:PosAt W wb c
def apart(b lb bb wb:Nat)(es:List Sq):Prop:=lb≠b∧bb≠b∧wb≠b∧∀(i:Nat) e,es[i]? =some e→e.2.1≠b∧e.2.2≠b
theorem cell_kept{w W:World}{b:Nat}(h:w.grownBy W (some b)){p:Addr}{v:Value}(hp:p.block≠b)(hc:w.cell? p=some v):W.cell? p=some v:=
 (World.cell?_of_block (h.block p.block (World.block_lt_of_cell? w _ hc) (fun e=>hp (Option.some.inj e)))).trans hc
theorem Plan.kept{W W':World}{c:Nat→Int}{lb bb wb cap b:Nat}{es:List Sq}(h:Plan W c lb bb wb cap es)(ha:apart b lb bb wb es)(hg:W.grownBy W' (some b)):Plan W' c lb bb wb cap es:=by
 obtain⟨a1,a2,a3,a4⟩:=ha
 refine⟨cell_kept hg a1 h.lst,fun i e he=> ?_,cell_kept hg a2 h.last,⟨(hg.block wb h.was.lt (fun e=>a3 (Option.some.inj e))).trans h.was.heap⟩⟩
 obtain⟨h1,h2,h3,h4⟩:=h.sq i e he
 exact⟨h1,cell_kept hg a2 h2,cell_kept hg (a4 i e he).1 h3,cell_kept hg (a4 i e he).2 h4⟩
theorem grown_trans{a b c:World}{r:Option Nat}(h:a.grownBy b r)(k:b.grownBy c r):a.grownBy c r:=
 ⟨k.os.trans h.os,k.tape.trans h.tape,k.output.trans h.output,Nat.le_trans h.size k.size,fun i hi hn=>(k.block i (Nat.lt_of_lt_of_le hi h.size) hn).trans (h.block i hi hn)⟩
end Sk
theorem zfJ(c d:Nat→Int)(lb b o:Nat)(T:TypeId)(arr:Array Value)(es:List Sk.Sq)(wb bb cap:Nat)(W:World)(ho:o+88≤arr.size)(hL:Sk.Lies W b o T arr d)(hP:Sk.Plan W c lb bb wb cap es)(ha:Sk.apart b lb bb wb es)
  (hall:∀s,s<64→c (1+s)≠d (1+s)→∃e∈es,e.1=s) (hN:es.length≤64):
  Calls prog 112 #[.pointer (some ⟨b,o,none⟩),.pointer (some ⟨lb,0,none⟩)] W fun e W'=>(∃v,e= .returned v)∧Sk.Lies W' b o T arr c∧W.grownBy W' (some b):=by
 have HP:=hid hP
 have HA:=hid ha
 have HL:=hid hL
 have HO:=hid ho
 have HM:=hid (Sk.mix_all c d es hall)
 have hlst:=hP.lst
 obtain⟨n,hn⟩:∃n,es.length=n:=⟨_,rfl⟩
 rw [hn]at hlst hN
 have Hn:=hid hn
 have HG0:=hid (World.grownBy.refl W (some b))
 clear hP ha hL ho hall hn
 go_enter func112,ntmps112
 go_upto_region 1 with fail
 clear hlst
 go_loopw [4,7] (fun _ i wr=>∃k:Nat,k≤n+1∧i= .int .i64 (k:Int)∧Hid (Sk.Lies wr b o T arr (if k≤n then Sk.mix c d (es.take k)else c))∧Hid (W.grownBy wr (some b))) (fun _ i _=>n+1-(intOf i).toNat)
 case atStart=>exact⟨0,Nat.zero_le _,rfl,hid (by rw [if_pos (Nat.zero_le _)];exact HL.out),HG0⟩
 case round=>
  obtain⟨k,hk,rfl,HLk,HG⟩:=hrel
  by_cases hlt:k<n
  ·obtain⟨⟨s,xb,sb⟩,he⟩:∃e,es[k]? =some e:=⟨_,List.getElem?_eq_getElem (by rw [Hn.out];exact hlt)⟩
   have HPk:=hid (HP.kept HA HG)
   have hc:wr.cell? ⟨bb,k,none⟩=some (.func (.func 110) #[] #[.pointer (some ⟨xb,0,none⟩),.pointer (some ⟨sb,0,none⟩)]):=(HPk.sq k _ he).2.1
   have HC:=hid (show Calls prog 110 #[.pointer (some ⟨b,o,none⟩),.pointer (some ⟨xb,0,none⟩),.pointer (some ⟨sb,0,none⟩)] wr _ from
    zg1 b o xb sb T arr _ s _ wr (HPk.sq k _ he).1 HO HLk (HPk.sq k _ he).2.2.1 (HPk.sq k _ he).2.2.2)
   have HE:=hid (show upd (if k≤n then Sk.mix c d (es.take k)else c) (1+s) (c (1+s))=if k+1≤n then Sk.mix c d (es.take (k+1))else c by
    rw [if_pos om,if_pos om,List.take_add_one,he]
    exact(Sk.mix_snoc c d _ (s,xb,sb)).symm)
   have hk1:(k:Int)<(n:Int)+1:=by omega
   clear he HLk
   go_wp2_with (go_at_call 110;refine HC.mono ?_;rintro e w2 ⟨⟨v,rfl⟩,hl2,hg2⟩;have HL2:=hid hl2;have HG2:=hid (Sk.grown_trans HG hg2);clear hl2 hg2)
   exact⟨⟨k+1,by omega,by go_num,hid (HE.out▸HL2.out),HG2⟩,by simp [intOf];omega⟩
  ·by_cases hkn:k=n
   ·subst hkn
    have HPk:=hid (HP.kept HA HG)
    have hc:wr.cell? ⟨bb,k,none⟩=some (.func (.func 111) #[] #[.pointer (some ⟨wb,0,none⟩)]):=by have:=HPk.last;rw [Hn.out]at this;exact this
    have HC:=hid (show Calls prog 111 #[.pointer (some ⟨b,o,none⟩),.pointer (some ⟨wb,0,none⟩)] wr _ from
     zg8 b o wb T arr c _ wr HO HLk HPk.was HA.2.2.1 (by rw [if_pos (Nat.le_refl _),List.take_of_length_le (by rw [Hn.out];omega)];exact HM.out))
    have hk1:(k:Int)<(k:Int)+1:=by omega
    clear HLk
    go_wp2_with (go_at_call 111;refine HC.mono ?_;rintro e w2 ⟨⟨v,rfl⟩,hl2,hg2⟩;have HL2:=hid hl2;have HG2:=hid (Sk.grown_trans HG hg2);clear hl2 hg2)
    exact⟨⟨k+1,by omega,by go_num,hid (by rw [if_neg om];exact HL2.out),HG2⟩,by simp [intOf]⟩
   ·obtain rfl:k=n+1:=by omega
    go_wp2
    first|refine bodyPost_end (results_none rfl _ _ _) rfl ?_|refine bodyPost_ret (results_none rfl _ _ _) rfl ?_
    exact⟨⟨_,rfl⟩,by have:=HLk.out;rw [if_neg om]at this;exact this,HG⟩
theorem Sk.info_fn:(prog.info? 95).map (fun i=>(i.zero,i.size,i.bytes))=some (some .nilFunc,1,8):=by kernel_rfl
structure Sk.Bk (w0:World) (c d:Nat→Int) (wb lb:Nat) (wr:World) (k:Nat) (es:List Sk.Sq) (v:Value):Prop where
 below:Below w0.heap.size w0 wr
 was:PosAt wr wb c
 box:RowAt wr lb 169 #[v]
 own:wr.ownsRow w0.heap.size 95 1 v es.length (es.map Sk.f1)
 sq:∀(i:Nat) e,es[i]? =some e→e.1<64∧RowAt wr e.2.1 5 #[.int .u8 (c (1+e.1))]∧RowAt wr e.2.2 3 #[.int .i64 (e.1:Int)]∧w0.heap.size≤e.2.1∧w0.heap.size≤e.2.2
 cov:∀s,s<k→c (1+s)≠d (1+s)→∃e∈es,e.1=s
 len:es.length≤k
theorem Sk.Bk.grow{w0:World}{c d:Nat→Int}{wb lb:Nat}{wr wr':World}{k:Nat}{es:List Sk.Sq}{v:Value}(h:Sk.Bk w0 c d wb lb wr k es v)(hb:Below wr.heap.size wr wr'):Sk.Bk w0 c d wb lb wr' k es v:=
 ⟨za h.below hb,h.was.below hb,h.box.below hb,zq h.own hb,fun i e he=>have q:=h.sq i e he;⟨q.1,q.2.1.below hb,q.2.2.1.below hb,q.2.2.2⟩,h.cov,h.len⟩
theorem Sk.row_ne{w:World}{g h:Nat}{T T':TypeId}{cs cs':Array Value}(a:RowAt w g T cs)(b:RowAt w h T' cs')(hne:T≠T'):g≠h:=fun e=>by
 subst e
 have:=a.heap.symm.trans b.heap
 cases this
 exact hne rfl
theorem Sk.own_row{w:World}{base size n:Nat}{e:TypeId}{v:Value}{xs:List Value}(h:w.ownsRow base e size v n xs){g:Nat}(hg:v.ownBlock=some g):∃cs,RowAt w g e cs:=by
 rcases h.2 with⟨rfl,_⟩|⟨g',cap,cur,rfl,hb,hh,_⟩
 ·cases hg
 ·cases hg
  exact⟨_,⟨hh⟩⟩
theorem Sk.own_ne{w:World}{base size n:Nat}{e T:TypeId}{v:Value}{xs:List Value}{cs:Array Value}{b:Nat}(h:w.ownsRow base e size v n xs)(hr:RowAt w b T cs)(hne:e≠T):∀k,v.ownBlock=some k→k≠b:=fun k hk=>by
 obtain⟨cs',h'⟩:=Sk.own_row h hk
 exact Sk.row_ne h' hr hne
theorem Sk.Bk.push{w0:World}{c d:Nat→Int}{wb lb:Nat}{W w3 W9:World}{k:Nat}{es:List Sk.Sq}{v v':Value}{xs:List Value}(hB:Sk.Bk w0 c d wb lb W k es v)
  (hg:W.grownBy w3 v.ownBlock) (hown:w3.ownsRow w0.heap.size 95 1 v' (es.length+1) xs) (hP:Put lb w3 W9) (hlb:w0.heap.size≤lb):
  Below w0.heap.size w0 W9∧PosAt W9 wb c∧W9.ownsRow w0.heap.size 95 1 v' (es.length+1) xs∧(∀T b cs,T≠95→T≠169→RowAt W b T cs→RowAt W9 b T cs):=by
 have hk:∀T b cs,T≠95→RowAt W b T cs→RowAt w3 b T cs:=fun T b cs hT h=>h.grown hg (Sk.own_ne hB.own h (fun e=>hT e.symm))
 have hbox:=hk _ _ _ dc hB.box
 have hK:∀T b cs,T≠95→T≠169→RowAt W b T cs→RowAt W9 b T cs:=fun T b cs h1 h2 h=>hP.row (hk T b cs h1 h) (Sk.row_ne (hk T b cs h1 h) hbox h2)
 have hs:=hB.below.size
 refine⟨hP.below (hB.below.grown hg hs (fun q hq=>(hB.own.lt q hq).1)) hlb,⟨(hK _ _ _ dc dc (⟨hB.was.heap⟩:RowAt W wb 31 (posC c))).heap⟩,hP.owns hown (fun e=> ?_),hK⟩
 exact Sk.own_ne hown hbox dc lb e rfl
theorem Sk.grown_of_alloc{w w':World}{o:Obj}{r:Option Nat}(h:(w.alloc o).grownBy w' r):w.grownBy w' r:=
 ⟨h.os,h.tape,h.output,Nat.le_trans (by rw [World.size_alloc];omega) h.size,fun k hk hn=>(h.block k (by rw [World.size_alloc];omega) hn).trans (Below.heap_alloc _ _ _ hk)⟩
theorem Sk.size_sl:(prog.info? 169).map (·.size)=some 1:=by kernel_rfl
theorem Sk.size_int:(prog.info? 3).map (·.size)=some 1:=by kernel_rfl
theorem Sk.of_some{w W:World}{F:Nat→Prop}(h:Sk.Same F w W){p:Addr}{v:Value}(hF:F p.block)(hc:w.cell? p=some v):W.cell? p=some v:=
 (World.cell?_of_block (h.2 p.block hF)).trans hc
theorem Sk.back_done{w0:World}{c d:Nat→Int}{wb lb g cap:Nat}{W':World}{es:List Sk.Sq}(base:Nat)(p1:Below w0.heap.size w0 W')(p2:PosAt W' wb c)(hr:RowAt W' lb 169 #[.slice (some ⟨g,0,none⟩) (es.length+1) cap])
  (p3:W'.ownsRow w0.heap.size 95 1 (.slice (some ⟨g,0,none⟩) (es.length+1) cap) (es.length+1) (es.map Sk.f1++[Sk.f2 wb]))
  (hsq:∀(i:Nat) e,es[i]? =some e→e.1<64∧RowAt W' e.2.1 5 #[.int .u8 (c (1+e.1))]∧RowAt W' e.2.2 3 #[.int .i64 (e.1:Int)]∧w0.heap.size≤e.2.1∧w0.heap.size≤e.2.2)
  (hcov:∀s,s<64→c (1+s)≠d (1+s)→∃e∈es,e.1=s) (hN:es.length≤64) (hlb:w0.heap.size≤lb∧w0.heap.size≤wb):
  ∃(lb':Nat) (F:Nat→Prop),Ending.returned (.func (.func 112) #[] #[.pointer (some ⟨lb,0,none⟩)])= .returned (Sk.undoV lb')∧(∀b,F b→w0.heap.size≤b)∧Sk.Foot base F W'∧Sk.Undo c d lb' F W'∧Below w0.heap.size w0 W':=by
 obtain⟨cs,hg⟩:=Sk.own_row p3 (g:=g) rfl
 have hgl:=(p3.lt g rfl).1
 have hF:∀T b cs,T≠94→T≠97→RowAt W' b T cs→w0.heap.size≤b→(w0.heap.size≤b∧b<W'.heap.size∧¬Sk.Gm base W' b):=fun T b cs h1 h2 h hb=>⟨hb,h.lt,fun⟨_,cs',T',x,e,e2⟩=>by
  rw [h.heap]at e
  cases e
  rcases e2 with e2|e2
  ·exact h1 e2
  ·exact h2 e2⟩
 have hwr:RowAt W' wb 31 (posC c):=⟨p2.heap⟩
 have Fl:=hF _ _ _ dc dc hr hlb.1
 have Fg:=hF _ _ _ dc dc hg hgl
 have Fw:=hF _ _ _ dc dc hwr hlb.2
 have Fx:=fun i e he=>hF _ _ _ dc dc (hsq i e he).2.1 (hsq i e he).2.2.2.1
 have Fs:=fun i e he=>hF _ _ _ dc dc (hsq i e he).2.2.1 (hsq i e he).2.2.2.2
 obtain⟨ao,cap2,e1,_,_,hcells⟩:=zD p3
 obtain⟨b2,e2,_,_,hcell⟩:=hcells om
 injection e1 with e1 _ _
 rw [e2]at e1
 injection e1 with e1
 injection e1 with e1 _ _
 subst e1
 refine⟨lb,fun b=>w0.heap.size≤b∧b<W'.heap.size∧¬Sk.Gm base W' b,rfl,fun b h=>h.1,fun b h=>h.2,?_,p1⟩
 intro W b o arr T hS hnb hW ho harr
 have ha:arr=Sk.In arr o d:=Sk.in_same ho fun i hi=>(harr i hi).trans (zE d i hi)
 refine zfJ c d lb b o T arr es wb g cap W ho (by unfold Sk.Lies;rw [←ha];exact hW) ⟨Sk.of_some hS Fl (hr.cell 0),fun i e he=>⟨(hsq i e he).1,Sk.of_some hS Fg (hcell i _ ?_),Sk.of_some hS (Fx i e he) ((hsq i e he).2.1.cell 0),Sk.of_some hS (Fs i e he) ((hsq i e he).2.2.1.cell 0)⟩,Sk.of_some hS Fg (hcell es.length _ ?_),⟨(hS.2 wb Fw).trans p2.heap⟩⟩
  ⟨fun e=>hnb (e▸Fl),fun e=>hnb (e▸Fg),fun e=>hnb (e▸Fw),fun i x hx=>⟨fun e=>hnb (e▸Fx i x hx),fun e=>hnb (e▸Fs i x hx)⟩⟩ hcov hN
 ·have hi:=(List.getElem?_eq_some_iff.1 he).1
  rw [List.getElem?_append_left (by rw [List.length_map];exact hi),List.getElem?_map,he]
  rfl
 ·rw [List.getElem?_append_right (by rw [List.length_map];exact Nat.le_refl _),List.length_map,Nat.sub_self]
  rfl
theorem zb2(c d:Nat→Int)(base ga gq:Nat)(w:World)(hc:PosOk c)(hC:Sk.Seg w ga 1 c)(hQ:Sk.Seg w gq 0 d):
  Calls prog 47 #[.pointer (some ⟨ga,1,none⟩),.pointer (some ⟨gq,0,none⟩)] w fun e w'=>∃(lb:Nat) (F:Nat→Prop),e= .returned (Sk.undoV lb)∧(∀b,F b→w.heap.size≤b)∧Sk.Foot base F w'∧Sk.Undo c d lb F w'∧Below w.heap.size w w':=by
 have HC:=hid (fun W (hb:Below w.heap.size w W)=>hC.below hb)
 have HQ:=hid (fun W (hb:Below w.heap.size w W)=>hQ.below hb)
 have Hc:=hid hc
 have hrg:w.rangeAt ga 1 (posC c).toList:=by
  intro i v hv
  by_cases hi:i<88
  ·have:=zE c i hi
   rw [Array.getElem?_toList,this]at hv
   rw [←hv]
   exact hC i hi
  ·rw [Array.getElem?_toList,Array.getElem?_eq_none (by rw [zC];omega)]at hv;cases hv
 clear hC hQ hc
 obtain⟨i0,hi0,hz0,hz1,hz2⟩:=info_parts Sk.info_fn
 go_enter func47,ntmps47
 go_upto_region 3 with(first
  |(refine wpList_load_mid rfl 31 _ rfl ga 1 rfl (posC c).toList _ hrg underlying31 rfl (zr c) ?_)
  |((with_reducible refine zn rfl _ _ rfl ?_);refine⟨w.heap.size,c,rfl,rfl,⟨_,heap_alloc_new _ _,kr⟩,?_⟩;intro W1 hP1 hq1))
 have hB0:Sk.Bk w c d w.heap.size W1.heap.size (W1.alloc (.cells #[.slice none 0 0] 169)) 0 [] (.slice none 0 0):=by
  have hb:Below w.heap.size w (W1.alloc (.cells #[.slice none 0 0] 169)):=(hP1.below bA (Nat.le_refl _)).alloc (by have:=hP1.size;rw [World.size_alloc]at this;omega) _
  exact⟨hb,hq1.alloc _,RowAt.new _ _ _,World.ownsRow_nil _ _ _ _,fun i e he=>(by cases he),fun s hs=>om,Nat.le_refl _⟩
 have hlb:=hq1.lt
 obtain⟨lb,hlb'⟩:∃n,W1.heap.size=n:=⟨_,rfl⟩
 rw [hlb']at hB0 hlb⊢
 obtain⟨W2,hW2⟩:∃W,W1.alloc (.cells #[.slice none 0 0] 169)=W:=⟨_,rfl⟩
 rw [hW2]at hB0⊢
 have HB0:=hid hB0
 have Hlb:=hid hlb
 clear hP1 hq1 hlb' hW2 hB0 hrg hlb
 go_wp2
 go_loopw [7,8,12] (fun _ _ i wr=>∃(k:Nat) (es:List Sk.Sq) (v:Value),k≤64∧i= .int .i64 (k:Int)∧Hid (Sk.Bk w c d w.heap.size lb wr k es v)) (fun _ _ i _=>64-(intOf i).toNat)
 case atStart=>exact⟨0,[],_,Nat.zero_le _,rfl,HB0⟩
 case round=>
  obtain⟨k,es,v,hk,rfl,HBk⟩:=hrel
  by_cases hlt:k<64
  ·have hk0:(k:Int)<64:=by omega
   go_upto_region 6 with((with_reducible refine zY rfl 3 _ _ rfl ?_);refine⟨wr.heap.size,0,3,#[.int .i64 0],.int .i64 (k:Int),rfl,rfl,rfl,⟨heap_alloc_new _ _⟩,dc,Sk.size_int,?_⟩;intro W5 hP5 hr5)
   have hb5:Below wr.heap.size wr W5:=hP5.below bA (Nat.le_refl _)
   have HB5:=hid (HBk.grow hb5)
   obtain⟨sb,hsb⟩:∃n,wr.heap.size=n:=⟨_,rfl⟩
   rw [hsb]at hr5⊢
   have HR5:=hid hr5
   have c7:W5.cell? ⟨sb,0,none⟩=some (.int .i64 (k:Int)):=hr5.cell 0
   have hca:=(HC W5 HB5.below).at (1+k) (2+k) om .u8 (zk hlt) om
   have Hsb:=hid (show w.heap.size≤sb by have:=HBk.below.size;omega)
   have hga:=(HC W5 HB5.below).lt
   have hgq:=(HQ W5 HB5.below).lt
   have hsl:=HR5.lt
   clear hP5 hr5 hb5 HBk hsb
   go_region
   all_goals
    have hb6:Below W5.heap.size W5 ((W5.alloc (.cells #[.int .u8 (c (1+k))] 5)).drew):=bA.drew
    have hr6:RowAt ((W5.alloc (.cells #[.int .u8 (c (1+k))] 5)).drew) W5.heap.size 5 #[.int .u8 (c (1+k))]:=⟨heap_alloc_new _ _⟩
    obtain⟨W6,hW6⟩:∃W,(W5.alloc (.cells #[.int .u8 (c (1+k))] 5)).drew=W:=⟨_,rfl⟩
    rw [hW6]at hb6 hr6⊢
    have HB6:=hid (HB5.grow hb6)
    have HS6:=hid (HR5.below hb6)
    have Hxb:=hid (show w.heap.size≤W5.heap.size from HB5.below.size)
    obtain⟨xb,hxb⟩:∃n,W5.heap.size=n:=⟨_,rfl⟩
    rw [hxb]at hr6 Hxb⊢
    have c7:W6.cell? ⟨sb,0,none⟩=some (.int .i64 (k:Int)):=HS6.cell 0
    have c8:W6.cell? ⟨xb,0,none⟩=some (.int .u8 (c (1+k))):=hr6.cell 0
    have hcq:=(HQ W6 HB6.below).at (1+k) (1+k) om .u8 (zk hlt) om
    have HR6:=hid hr6
    clear hca hga hgq hsl HB5 HR5 hW6 hb6 hr6 hxb
    by_cases he:c (1+k)=d (1+k)
    ·have hne:(c (1+k) !=d (1+k))=false:=by rw [he];exact bne_self_eq_false _
     have HE:=hid he
     clear he
     go_upto_region 7 with fail
     go_region
     go_wp2
     refine⟨⟨k+1,es,v,by omega,by go_num,hid ?_⟩,by simp [intOf];omega⟩
     have hB:=HB6.grow (Below.refl _ _).drew
     exact⟨hB.below,hB.was,hB.box,hB.own,hB.sq,fun s hs hn=>by
      by_cases e:s=k
      ·subst e;exact absurd HE hn
      ·exact hB.cov s om hn,by have:=hB.len;omega⟩
    ·have hne:(c (1+k) !=d (1+k))=true:=by rw [bne_iff_ne];exact he
     clear he
     go_upto_region 7 with fail
     go_region
     have hb7:Below W6.heap.size W6 W6.drew:=(Below.refl _ _).drew
     obtain⟨W7,hW7⟩:∃W,W6.drew=W:=⟨_,rfl⟩
     rw [hW7]at hb7⊢
     have HB7:=hid (HB6.grow hb7)
     have HS7:=hid (HS6.below hb7)
     have HR7:=hid (HR6.below hb7)
     have c6:W7.cell? ⟨lb,0,none⟩=some v:=HB7.box.cell 0
     have hlw:=HB7.box.lt
     have hlen:=HB7.len
     have hsw:=HB7.below.size
     have hu:=underlying169
     clear c7 c8 hcq hne hW7 hb7 HB6 HS6 HR6
     go_wp2_with (first
      |(at_builtin;refine wpList_append_own _ rfl _ _ 169 rfl w.heap.size 95 i0 .nilFunc 1 8 hu hi0 hz0 hz1 hz2 rfl dc v _ _ rfl (HB7.own.alloc _) ⟨W7.heap.size,0,none⟩ 1 1 [Sk.f1 (k,xb,sb)] rfl rfl (cell_one_new _ _ _) (by simp [Value.oneCell',Sk.f1]) (by unfold maxLen;omega) om (by simp;omega) ?_;intro v' w3 hown3 hgrow _;obtain⟨g',cap',rfl⟩:=ownsRow_succ hown3;have HO3:=hid hown3;have HG3:=hid (Sk.grown_of_alloc hgrow);clear hown3 hgrow)
      |((with_reducible refine zY rfl 169 _ _ rfl ?_);refine⟨lb,0,169,#[v],_,rfl,rfl,rfl,HB7.box.grown HG3 (Sk.own_ne HB7.own HB7.box dc),(Nat.zero_lt_succ 0),Sk.size_sl,?_⟩;intro W9 hP9 hr9;have HP9:=hid hP9;have HR9:=hid hr9;clear hP9 hr9))
     obtain⟨p1,p2,p3,p4⟩:=HB7.push HG3 HO3 HP9 (by have:=Hlb.out;omega)
     refine⟨⟨k+1,es++[(k,xb,sb)],_,by omega,by go_num,hid ⟨p1,p2,HR9,?_,?_,?_,?_⟩⟩,by simp [intOf];omega⟩
     ·rw [List.length_append,List.map_append];exact p3
     ·intro i e he
      by_cases hi:i<es.length
      ·rw [List.getElem?_append_left hi]at he
       obtain⟨q1,q2,q3,q4⟩:=HB7.sq i e he
       exact⟨q1,p4 _ _ _ dc dc q2,p4 _ _ _ dc dc q3,q4⟩
      ·rw [List.getElem?_append_right om]at he
       obtain⟨z,hz⟩:∃z,i-es.length=z:=⟨_,rfl⟩
       rw [hz]at he
       cases z with
       |zero=>
        cases he
        exact⟨hlt,p4 _ _ _ dc dc HR7,p4 _ _ _ dc dc HS7,Hxb,Hsb⟩
       |succ z=>cases he
     ·intro s hs hn
      by_cases e:s=k
      ·exact⟨(k,xb,sb),by simp,e.symm⟩
      ·obtain⟨x,hx,hxs⟩:=HB7.cov s om hn
       exact⟨x,by simp [hx],hxs⟩
     ·rw [List.length_append];show es.length+1≤k+1;omega
  ·obtain rfl:k=64:=by omega
   have HB7:=HBk
   have c6:wr.cell? ⟨lb,0,none⟩=some v:=HB7.box.cell 0
   have hlw:=HB7.box.lt
   have hlen:=HB7.len
   have hsw:=HB7.below.size
   have hu:=underlying169
   clear HBk hlt hk
   go_wp2_with (first
    |(at_builtin;refine wpList_append_own _ rfl _ _ 169 rfl w.heap.size 95 i0 .nilFunc 1 8 hu hi0 hz0 hz1 hz2 rfl dc v _ _ rfl (HB7.own.alloc _) ⟨wr.heap.size,0,none⟩ 1 1 [Sk.f2 w.heap.size] rfl rfl (cell_one_new _ _ _) (by simp [Value.oneCell',Sk.f2]) (by unfold maxLen;omega) om (by simp;omega) ?_;intro v' w3 hown3 hgrow _;obtain⟨g',cap',rfl⟩:=ownsRow_succ hown3;have HO3:=hid hown3;have HG3:=hid (Sk.grown_of_alloc hgrow);clear hown3 hgrow)
    |((with_reducible refine zY rfl 169 _ _ rfl ?_);refine⟨lb,0,169,#[v],_,rfl,rfl,rfl,HB7.box.grown HG3 (Sk.own_ne HB7.own HB7.box dc),(Nat.zero_lt_succ 0),Sk.size_sl,?_⟩;intro W9 hP9 hr9;have HP9:=hid hP9;have HR9:=hid hr9;clear hP9 hr9))
   go_ret
   obtain⟨p1,p2,p3,p4⟩:=HB7.push HG3 HO3 HP9 (by have:=Hlb.out;omega)
   obtain⟨lb',F',h1,h2,h3,h4,h5⟩:=Sk.back_done base p1 p2 HR9 p3 (fun i e he=>have q:=HB7.sq i e he;⟨q.1,p4 _ _ _ dc dc q.2.1,p4 _ _ _ dc dc q.2.2.1,q.2.2.2⟩) HB7.cov om (by have:=Hlb.out;omega)
   exact⟨lb',h1,F',h2,h3,h4,h5⟩
end Go.Proofs.YtbakeajgolhkgaaGreatDoor
