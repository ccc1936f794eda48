import Derived.RangeFuncLeaves
import Derived.LoopNIn
import Derived.Maps.AppendAt
import Derived.Test.YtbakeajgolhkgaaGreatDoorYac
set_option maxRecDepth 100000
set_option maxHeartbeats 8000000
open Go.Lib (hid)
namespace Go.Proofs.YtbakeajgolhkgaaGreatDoor
open Go.Proofs.Tryz
section
open Go.RowKit Go.Sort
section
variable {P:Program} {Q:Exit→Act→World→Prop} {n:Nat}
theorem zbZ{α:Type}{g:Operand}{ps:Array Tmp}{assign body:Code}{a:Act}{w:World}{gf:Nat}{lb:Array Value}
  (Wr:World→World→Prop) (hWb:∀(W W':World) (k:Nat),Wr W W'→w.heap.size≤k→W'.heap[k]? =W.heap[k]?)
  (hg:a.eval g= .func (.func gf) #[] lb) (eg:∀args w,(callFunc gf args).run P w= .ok (.enter gf args) w)
  (encs:α→Array Value) (hps:∀x,(encs x).size=ps.size) (I:List α→World→Prop) (Ok:List α→α→World→Prop) (Kp:World→World→Prop) (Ax:α→Act→World→Prop) (S:List α→Prop)
  (hIW:∀s W W',I s W→Wr W W'→I s W') (hI1:∀s,Grows (I s)) (hI2:∀s,Puts w.heap.size (I s)) (hO2:∀s x,Puts w.heap.size (Ok s x)) (hA2:∀x a',Puts w.heap.size (Ax x a'))
  (hKt:∀{A B C:World},Kp A B→Kp B C→Kp A C) (hKp:∀W,Puts w.heap.size (Kp W)) (hKr:∀W,Kp W W)
  (hiter:∀(l:Nat) (J:List α→World→Prop) (W:World),Below w.heap.size w W→(∀s,Grows (J s))→(∀s W W',J s W→Wr W W'→J s W')→J [] W→
   (∀pre x W1,J pre W1→Ok pre x W1→YieldAt Fence.wide (n-1-1) P l (encs x) W1 fun e W'=>e= .returned (.bool true)∧J (pre++[x]) W'∧Kp W1 W')→
   CallsIn Fence.wide (n-1) P gf (#[.func (.yield l) #[] #[]]++lb) W fun e W'=>(∃v,e= .returned v)∧∃xs,S xs∧J xs W')
  (h0:I [] w)
  (hassign:∀(l:Nat) (pre:List α) (x:α) (W:World) (K:Act→World→Prop),I pre W→Ok pre x W→(∀a' W',KeepsFrom w.heap.size W W'→Kp W W'→I pre W'→Ok pre x W'→Ax x a' W'→K a' W')→
   assign.wpIn (Fence.wide.inRound l) (n-1-1) P (Exit.then K (fun _ _ _=>False)) {tmps:=(ps.zip (encs x)).foldl (fun t (p,v)=>t.setIfInBounds p v) a.tmps,defers:=[]} W)
  (hbody:∀(l:Nat) (pre:List α) (x:α) (a':Act) (W:World),w.heap.size≤l→I pre W→Ok pre x W→Ax x a' W→
   body.wpIn (Fence.wide.inRound l) (n-1-1) P (fun e _ W'=>e= .normal∧KeepsFrom w.heap.size W W'∧Kp W W'∧I (pre++[x]) W') a' W)
  (hdone:∀(D:Nat) (xs:List α) (W:World),w.heap.size≤D→S xs→I xs W→W.heap[D]? =some (.deferred (some []))→Q .normal {a with defers:={target:= .collected D,args:= #[]}::a.defers} W):
  (Code.rangeFunc g ps assign body).wpIn Fence.wide n P Q a w:=by
 refine wpIn_rangeFunc fun fn hfn=> ?_
 generalize hB:w.heap.size=B at*
 --the record of the loop;where it lies,and the block beneath it
 let rc:LoopState→Loop:=fun st=>{state:=st,pending:=none,fn,tmps:=a.tmps,params:=ps,assign,body,defers:=B}
 let Bk:World→Prop:=fun W=>W.heap[B+1]? =some (.loop (rc .ready))∧W.heap[B]? =some (.deferred (some []))
 have hBg:Grows Bk:=fun W W' h hb=>⟨(hb.block _ (Array.getElem?_eq_some_iff.1 h.1).1).trans h.1,(hb.block _ (Array.getElem?_eq_some_iff.1 h.2).1).trans h.2⟩
 let W1:World:=(w.alloc (.deferred (some []))).alloc (.loop (rc .ready))
 have hW1:Below B w W1:=by
  have:=((Below.refl w.heap.size w).alloc (Nat.le_refl _) (.deferred (some []))).alloc sp (.loop (rc .ready))
  rwa [hB]at this
 have hbk1:Bk W1:=by
  constructor
  ·have:=World.alloc_heap_new (w.alloc (.deferred (some []))) (.loop (rc .ready))
   rwa [World.size_alloc,hB]at this
  ·have:=(Below.heap_alloc (w.alloc (.deferred (some []))) (.loop (rc .ready)) w.heap.size sp).trans (World.alloc_heap_new w _)
   rwa [hB]at this
 have hI1':I [] W1:=hI1 _ w W1 h0 (by rw [hB];exact hW1)
 refine⟨B+1,[{target:= .collected B,args:= #[]}],W1,{target:= .fn (.func gf) lb,args:= #[.func (.yield (B+1)) #[] #[]]},W1,gf,#[.func (.yield (B+1)) #[] #[]]++lb,W1,?_,?_,fun _ _=>trivial,?_,fun h=>by simp [Fence.wide]at h,?_⟩
 ·have:=run_enterLoop_outer (P:=P) (w:=w) fn a.tmps ps assign body
  rw [hB]at this
  exact this
 ·simp only [resolve,hg]
  simp [go_sem]
 ·simp [invoke,go_sem,eg]
 ·refine(hiter (B+1) (fun s W=>I s W∧Bk W) W1 hW1 (fun s W W' h hb=>⟨hI1 s W W' h.1 hb,hBg W W' h.2 hb⟩) (fun s W W' h hw=>⟨hIW s W W' h.1 hw,(hWb W W' (B+1) hw (Nat.le_succ B)).trans h.2.1,(hWb W W' B hw (Nat.le_refl B)).trans h.2.2⟩) ⟨hI1',hbk1⟩ ?_).mono ?_
  ·rintro pre x W ⟨hi,hl,hk⟩ hok
   refine⟨fn,_,assign,body,run_yield (P:=P) hl (hps x),roundIn_of_wpIn trivial (hassign (B+1) pre x W _ hi hok fun a' Wa hkf hkp hia hoa hax=> ?_)⟩
   have hla:=hkf.same _ _ (Nat.le_succ B) hl rfl
   have hka:=hkf.same _ _ (Nat.le_refl B) hk rfl
   refine⟨_,run_beginRound hla rfl,?_⟩
   have hlt:=(Array.getElem?_eq_some_iff.1 hla).1
   have hp:=hI2 pre Wa (B+1) _ (.loop {rc .ready with state:= .busy}) hia (Nat.le_succ B) hla rfl
   have hkp2:=hKp Wa Wa (B+1) _ (.loop {rc .ready with state:= .busy}) (hKr Wa) (Nat.le_succ B) hla rfl
   refine wpIn_mono (hbody (B+1) pre x a' _ (Nat.le_succ B) hp (hO2 pre x Wa (B+1) _ _ hoa (Nat.le_succ B) hla rfl) (hA2 x a' Wa (B+1) _ _ hax (Nat.le_succ B) hla rfl)) ?_
   rintro e a3 W3 ⟨rfl,hk3,hkp3,hi3⟩
   have hl3:=hk3.same (B+1) (.loop {rc .ready with state:= .busy}) (Nat.le_succ B) (World.putObj_heap_same hlt) rfl
   have hd3:=hk3.same B (.deferred (some [])) (Nat.le_refl B) ((World.putObj_heap_other om).trans hka) rfl
   refine⟨_,_,run_endRound (P:=P) none hl3,rfl,⟨hI2 _ W3 (B+1) _ _ hi3 (Nat.le_succ B) hl3 rfl,World.putObj_heap_same (Array.getElem?_eq_some_iff.1 hl3).1,(World.putObj_heap_other om).trans hd3⟩,?_⟩
   exact hKt hkp (hKt hkp2 (hKp _ W3 (B+1) _ _ hkp3 (Nat.le_succ B) hl3 rfl))
  ·rintro e W2 ⟨⟨v,rfl⟩,xs,hS,hi,hl,hk⟩
   exact⟨none,_,run_endLoop (P:=P) hl (by simp [rc]),hdone B xs _ (Nat.le_refl B) hS (hI2 _ W2 (B+1) _ _ hi (Nat.le_succ B) hl rfl) ((World.putObj_heap_other om).trans hk)⟩
end
end
section
open Go.RowKit Go.Sort
attribute [local go_sem] Oper.semAt_some
theorem ziG(N n:Nat)(hn:N.testBit n=true)(hlo:∀m,m<n→N.testBit m=false)(j:Nat):(N&&&(N-1)).testBit j=(N.testBit j&&decide (j≠n)):=by
 have hmod:N % 2 ^ n=0:=Nat.eq_of_testBit_eq (fun i=>by
  rw [Nat.testBit_mod_two_pow,Nat.zero_testBit]
  by_cases hi:i<n
  ·rw [hlo i hi,Bool.and_false]
  ·simp [hi])
 have hN:N=2 ^ n*(N/2 ^ n):=by have:=Nat.div_add_mod N (2 ^ n);omega
 generalize N/2 ^ n=M at hN
 have hb:∀i,N.testBit i=(decide (n≤i)&&M.testBit (i-n)):=fun i=>by rw [hN,Nat.testBit_two_pow_mul]
 have hM:M % 2=1:=by
  have:=hb n
  rw [hn,Nat.sub_self,Nat.testBit_zero]at this
  simpa using this.symm
 obtain⟨q,hq⟩:∃q,M=2*q+1:=⟨M/2,by omega⟩
 have hp:=Nat.two_pow_pos n
 have h1:N-1=2 ^ n*(2*q)+(2 ^ n-1):=by
  rw [hN,hq,Nat.mul_add]
  omega
 rw [Nat.testBit_and,h1,Nat.testBit_two_pow_mul_add _ om]
 by_cases hj:j<n
 ·rw [hlo j hj,Bool.false_and,Bool.false_and]
 ·rw [if_neg hj,hb j,hq]
  by_cases hjn:j=n
  ·subst hjn
   simp
  ·obtain⟨i,hi⟩:∃i,j-n=i+1:=⟨j-n-1,by omega⟩
   rw [hi,Nat.testBit_succ,Nat.testBit_succ,show(2*q+1)/2=q by omega,show 2*q/2=q by omega]
   simp [hjn]
namespace B
def list(b:BitVec 64):List Nat:=(List.range 64).filter fun j=>bit b j
def pred(b:BitVec 64):BitVec 64:=b-1#64
def less(b:BitVec 64):BitVec 64:=bAnd b (pred b)
theorem zc2(b:BitVec 64)(h:b≠0#64):(pred b).toNat=b.toNat-1:=by
 have h0:b.toNat≠0:=fun e=>h (BitVec.eq_of_toNat_eq (by simpa using e))
 have:=b.isLt
 unfold pred
 rw [BitVec.toNat_sub]
 simp
 omega
theorem pred_val(b:BitVec 64)(h:b≠0#64):IntKind.u64.wrap (U b-1)=U (pred b):=by
 have h0:b.toNat≠0:=fun e=>h (BitVec.eq_of_toNat_eq (by simpa using e))
 have:=bv_lt b
 unfold U
 rw [zc2 b h,IntKind.wrap_u64]
 omega
theorem zhb(b:BitVec 64)(h:b≠0#64)(n:Nat)(hn:bit b n=true)(hlo:∀m,m<n→bit b m=false)(j:Nat):bit (less b) j=(bit b j&&decide (j≠n)):=by
 unfold less
 rw [zav,bit_test,bit_test,zc2 b h,←Nat.testBit_and]
 exact ziG b.toNat n hn hlo j
theorem filt(p q:Nat→Bool)(n:Nat)(hp:p n=true)(hlo:∀j,j<n→p j=false)(hq:∀j,q j=(p j&&decide (j≠n))):
  ∀m k,k≤n→n<k+m→(List.range' k m).filter p=n::(List.range' k m).filter q:=by
 intro m
 induction m with
 |zero=>intro k h1 h2;omega
 |succ m ih=>
  intro k h1 h2
  rw [List.range'_succ]
  by_cases e:k=n
  ·subst e
   have hqk:q k=false:=by rw [hq];simp
   rw [List.filter_cons_of_pos hp,List.filter_cons_of_neg (by rw [hqk];simp)]
   congr 1
   apply List.filter_congr
   intro j hj
   have:=List.mem_range'.1 hj
   obtain⟨i,_,e⟩:=this
   rw [hq]
   have:j≠k:=by omega
   simp [this]
  ·have hpk:=hlo k om
   have hqk:q k=false:=by rw [hq,hpk];rfl
   rw [List.filter_cons_of_neg (by rw [hpk];simp),List.filter_cons_of_neg (by rw [hqk];simp)]
   exact ih (k+1) om om
theorem list_cons(b:BitVec 64)(h:b≠0#64)(n:Nat)(h64:n<64)(hn:bit b n=true)(hlo:∀m,m<n→bit b m=false):list b=n::list (less b):=by
 unfold list
 rw [List.range_eq_range']
 exact filt _ _ n hn hlo (zhb b h n hn hlo) 64 0 om om
theorem list_zero:list 0#64=[]:=by
 unfold list
 rw [List.filter_eq_nil_iff]
 intro j _
 rw [zac];simp
theorem list_len(b:BitVec 64):(list b).length≤64:=by
 have:=List.length_filter_le (fun j=>bit b j) (List.range 64)
 unfold list
 simpa using this
theorem less_lt(b:BitVec 64)(h:b≠0#64):(less b).toNat<b.toNat:=by
 have h0:b.toNat≠0:=fun e=>h (BitVec.eq_of_toNat_eq (by simpa using e))
 unfold less bAnd
 rw [BitVec.toNat_and,zc2 b h]
 have:b.toNat&&&(b.toNat-1)≤b.toNat-1:=Nat.and_le_right
 omega
end B
def WrB(Bb:Nat)(W W':World):Prop:=Put Bb W W'∧∃u,Boxed W' Bb 23 u
def KpB(B0 Bb:Nat)(W W':World):Prop:=Below B0 W W'∧∀o,W.heap[Bb]? =some o→W'.heap[Bb]? =some o
theorem zff(n l B0 Bb:Nat)(b:BitVec 64)(J:List Nat→World→Prop)(W:World)(hn:1≤n)(hJW:∀s W W',J s W→WrB Bb W W'→J s W')(h0:J [] W)
  (hB:Boxed W Bb 23 (.int .u64 (U b))) (hB0:B0≤Bb) (hT:∀W',Below B0 W W'→Tb W')
  (hY:∀(pre:List Nat) (x:Nat) (W1:World),J pre W1→pre.length<64∧x<64→YieldAt Fence.wide (n-1) prog l #[.int .i64 (x:Int)] W1 fun e W'=>e= .returned (.bool true)∧J (pre++[x]) W'∧KpB B0 Bb W1 W'):
  CallsIn Fence.wide n prog 281 #[.func (.yield l) #[] #[],.pointer (some ⟨Bb,0,none⟩)] W fun e W'=>(∃v,e= .returned v)∧∃xs,xs=B.list b∧J xs W':=by
 refine callsIn_of_wp func281 rfl trivial ?_ rfl
 simp only [ntmps281,List.size_toArray,List.length_cons,List.length_nil,Nat.reduceAdd,Nat.reduceSub,Array.replicate_succ,Array.replicate_zero,List.push_toArray,List.append_toArray,List.nil_append,List.cons_append]
 have HY:=hid hY
 have HT:=hid hT
 have H0:=hid (And.intro h0 hB)
 clear hY hT h0 hB
 gi_wp2
 gi_loopw [] (fun wr=>∃(pre:List Nat) (r:BitVec 64),J pre wr∧Boxed wr Bb 23 (.int .u64 (U r))∧Hid (pre++B.list r=B.list b)∧Below B0 W wr)
  (fun wr=>match wr.cell? ⟨Bb,0,none⟩with|some v=>(intOf v).toNat|none=>0)
 case atStart=>exact⟨[],b,H0.1,H0.2,hid rfl,Below.refl _ _⟩
 case round=>
  obtain⟨pre,r,hj,hb,HL,hbr⟩:=hrel
  have hc:=hb.cell
  have hT1:=HT _ hbr
  have hz:=U_zero r
  by_cases hr:r=0#64
  ·subst hr
   have hL:=HL.out
   rw [B.list_zero,List.append_nil]at hL
   have HL2:=hid hL
   clear hL hz
   gi_wp2
   go_end0
   exact⟨⟨_,rfl⟩,pre,HL2,hj⟩
  ·obtain⟨x,hx,h64,hbit,hlo⟩:=zbK r hr
   have HX:=hid (B.list_cons r hr x h64 hbit hlo)
   have hne:(U r !=0)=true:=by simp [bne,hz,hr]
   have hs:=B.pred_val r hr
   have HLt:=hid (B.less_lt r hr)
   have HF:=hid (zce r wr hT1)
   rw [hx]at HF
   clear hbit hlo hz hr hx
   have hpl:pre.length<64:=by
    have h:=congrArg List.length HL.out
    have h2:=B.list_len b
    rw [HX.out,List.length_append,List.length_cons]at h
    omega
   have hyy:=HY pre x wr hj ⟨hpl,h64⟩
   clear hpl
   obtain⟨fn,tmps,assign,body,hy,hR⟩:=hyy
   change(Instr.yield l #[.int .i64 (x:Int)]).run _ _=_ at hy
   gi_wp2_with (first
    |(refine⟨trivial,?_⟩;gi_at_call 203;refine(callsIn_wide.2 HF).mono ?_;rintro e w' ⟨rfl,rfl⟩)
    |(gi_at_call 203;refine(callsIn_wide.2 HF).mono ?_;rintro e w' ⟨rfl,rfl⟩))
   refine hR.mono ?_
   rintro e W3 ⟨rfl,hJ3,hk3⟩
   have hb3:Boxed W3 Bb 23 (.int .u64 (U r)):=hk3.2 _ hb
   have hc3:=hb3.cell
   have hf3:=hb3.frozen
   have HZ:=hid (show J (pre++[x]) (W3.setCell ⟨Bb,0,none⟩ (.int .u64 (U (bAnd r (B.pred r)))))∧Boxed (W3.setCell ⟨Bb,0,none⟩ (.int .u64 (U (bAnd r (B.pred r))))) Bb 23 (.int .u64 (U (B.less r)))∧Below B0 W (W3.setCell ⟨Bb,0,none⟩ (.int .u64 (U (bAnd r (B.pred r)))))from
    ⟨hJW _ _ _ hJ3 ⟨zN _ _ _ _,_,hb3.set _⟩,hb3.set _,(hbr.trans hk3.1).setCell (p:=⟨Bb,0,none⟩) hB0 _⟩)
   have Hc:=hid hc
   clear hJ3 hk3 hb3 hbr hj hb hc
   gi_wp2
   go_roundw
   case rel=>exact⟨pre++[x],B.less r,HZ.1,HZ.2.1,hid (by rw [List.append_assoc];have h:=HL.out;rw [HX.out]at h;exact h),HZ.2.2⟩
   case measure=>
    rw [HZ.out.2.1.cell,Hc.out]
    have:=HLt.out
    simp [intOf,U]
    omega
theorem zev(b:BitVec 64)(w:World):cR 201 #[.int .u64 (U b)] w (.func (.func 281) #[] #[.pointer (some ⟨w.heap.size,0,none⟩)]) fun w'=>w.alloc (.cells #[.int .u64 (U b)] 23)=w':=by
 go_enter func201,ntmps201
 go_wp2
 go_ret
 exact⟨rfl,rfl⟩
theorem info_intL:(prog.info? 3).map (fun i=>(i.zero,i.size,i.bytes))=some (some (.int .i64 0),1,8):=by kernel_rfl
def B.ints(l:List Nat):List Value:=l.map fun(n:Nat)=>Value.int .i64 (n:Int)
theorem zbF(b:BitVec 64)(w:World)(hT:Tb w):
  Calls prog 129 #[.int .u64 (U b)] w fun e w'=>∃v,e= .returned v∧w'.ownsRow w.heap.size 3 1 v (B.list b).length (B.ints (B.list b))∧Below w.heap.size w w':=by
 have HT:=hid hT
 clear hT
 refine(callsIn_wide (n:=6)).1 ?_
 refine callsIn_of_wp_marks func129 rfl trivial ?_ rfl
 simp only [ntmps129,List.size_toArray,List.length_cons,List.length_nil,Nat.reduceAdd,Nat.reduceSub,Array.replicate_succ,Array.replicate_zero,List.push_toArray,List.append_toArray,List.nil_append,List.cons_append]
 gi_wp2_with (first
  |(refine⟨trivial,?_⟩;gi_at_call 201;refine(callsIn_wide.2 (zev _ _)).mono ?_;rintro e w' ⟨rfl,rfl⟩)
  |(gi_at_call 201;refine(callsIn_wide.2 (zev _ _)).mono ?_;rintro e w' ⟨rfl,rfl⟩))
 have bO:=Boxed.new w 78 (.slice none 0 0)
 have bB:=Boxed.new (w.alloc (.cells #[.slice none 0 0] 78)) 23 (.int .u64 (U b))
 rw [World.size_alloc]at bB
 have hB0:Below w.heap.size w ((w.alloc (.cells #[.slice none 0 0] 78)).alloc (.cells #[.int .u64 (U b)] 23)):=bA.alloc sp _
 have hsz:((w.alloc (.cells #[.slice none 0 0] 78)).alloc (.cells #[.int .u64 (U b)] 23)).heap.size=w.heap.size+2:=by simp
 replace bO:=bO.alloc (.cells #[.int .u64 (U b)] 23)
 obtain⟨W0,hW0⟩:∃W0,((w.alloc (.cells #[.slice none 0 0] 78)).alloc (.cells #[.int .u64 (U b)] 23))=W0:=⟨_,rfl⟩
 rw [hW0]at bO bB hB0 hsz⊢
 clear hW0
 obtain⟨i0,hi,hz0,hz1,hz2⟩:=info_parts info_intL
 refine zbZ (gf:=281) (lb:= #[.pointer (some ⟨w.heap.size+1,0,none⟩)]) (WrB (w.heap.size+1)) (fun W W' k h hk=>h.1.block k om) rfl (enters_of func281 kr rfl) (fun x:Nat=> #[.int .i64 (x:Int)]) (fun _=>rfl)
  (fun pre W=>(∃v,Boxed W w.heap.size 78 v∧W.ownsRow w.heap.size 3 1 v pre.length (B.ints pre))∧(∃u,Boxed W (w.heap.size+1) 23 u)∧Below w.heap.size w W)
  (fun pre x _=>pre.length<64∧x<64) (KpB w.heap.size (w.heap.size+1))
  (fun x a' _=>a'={tmps:= #[.int .u64 (U b),undef,.slice none 0 0,.pointer (some ⟨w.heap.size,0,none⟩),.int .i64 (x:Int),.int .u64 (U b),.func (.func 281) #[] #[.pointer (some ⟨w.heap.size+1,0,none⟩)],.int .i64 (x:Int),undef,undef,undef,undef,undef],defers:=[]})
  (fun xs=>xs=B.list b) ?wr ?gr ?pu (fun _ _ _ _ _ _ h _ _ _=>h) (fun _ _ _ _ _ _ h _ _ _=>h) (fun h k=>⟨h.1.trans k.1,fun o ho=>k.2 o (h.2 o ho)⟩) ?kp (fun W=>⟨Below.refl _ _,fun _ h=>h⟩) ?iter ?start ?assign ?body ?done
 case wr=>
  rintro pre W W' ⟨⟨v,hv,hr⟩,⟨u,hu⟩,hb⟩ ⟨hP,hu'⟩
  exact⟨⟨v,(hP.block _ om).trans hv,hP.owns hr (hu.not_row dc hr).symm⟩,hu',hP.below hb om⟩
 case gr=>
  rintro pre W W' ⟨⟨v,hv,hr⟩,⟨u,hu⟩,hb⟩ hb'
  exact⟨⟨v,(hb'.block _ hv.lt).trans hv,hr.kept (below_grown hb') (by cases v.ownBlock<;>simp)⟩,⟨u,(hb'.block _ hu.lt).trans hu⟩,za hb hb'⟩
 case pu=>
  rintro pre W l o o' ⟨⟨v,hv,hr⟩,⟨u,hu⟩,hb⟩ hl ho hn
  have ne:∀{B:Nat} {t:TypeId} {x:Value},Boxed W B t x→some B≠some l:=fun hx e=>by cases e;rw [show W.heap[_]? =_ from hx]at ho;cases ho;cases hn
  exact⟨⟨v,hv.kept (grownBy_putObj' W l o') (ne hv),ownsRow_putObj hr o' ho hn⟩,⟨u,hu.kept (grownBy_putObj' W l o') (ne hu)⟩,hb.grown (grownBy_putObj' W l o') hb.size (fun k e=>by cases e;omega)⟩
 case kp=>
  rintro W W1 l o o' h hl ho hn
  exact⟨h.1.grown (grownBy_putObj' W1 l o') (by have:=(Array.getElem?_eq_some_iff.1 ho).1;omega) (fun k e=>by cases e;omega),fun o2 h2=>(World.putObj_heap_other om).trans (h.2 o2 h2)⟩
 case iter=>
  intro l J W hW _ hJW h0 hY
  exact zff 5 l w.heap.size (w.heap.size+1) b J W om hJW h0 ((hW.block _ bB.lt).trans bB) (Nat.le_succ _) (fun W' hb=>zi HT (hB0.trans ((hW.mono om).trans hb))) hY
 case start=>exact⟨⟨_,bO,World.ownsRow_nil _ _ _ _⟩,⟨_,bB⟩,hB0⟩
 case assign=>
  intro l pre x W Kk hI hx hK
  have HI:=hid hI
  gi_wp2
  exact hK _ _ (K.KeepsFrom.of_below (Below.refl _ _)) ⟨Below.refl _ _,fun _ h=>h⟩ HI hx rfl
 case body=>
  rintro l pre x a' W hl ⟨⟨v,hv,hrow⟩,⟨u,hu⟩,hB⟩ ⟨hpl,hx⟩ rfl
  have hc:=hv.cell
  have hne:some (w.heap.size+1)≠v.ownBlock:=hu.not_row dc hrow
  gi_wp2_with (gi_at_builtin;refine wpListIn_append_own _ rfl _ _ 78 rfl w.heap.size 3 i0 (.int .i64 0) 1 8 underlying78 hi hz0 hz1 hz2 rfl dc _ _ _ rfl (hrow.alloc _) ⟨W.heap.size,0,none⟩ 1 1 [.int .i64 x] rfl rfl (cell_one_new _ _ _) (by simp [Value.oneCell']) (by unfold maxLen;omega) om (by have:=hB.size;simp;omega) ?_;intro v' w1 hown' hgrow _;obtain⟨g',cap',rfl⟩:=ownsRow_succ hown';obtain⟨hv1,hv2,hr2,hk2,hb2⟩:=hv.appended dc hrow hB.size (Nat.le_refl _) hown' hgrow;have hc1:=hv1.cell;have hf1:=hv1.frozen)
  have hlt:=hu.lt
  have hsame:(w1.setCell ⟨w.heap.size,0,none⟩ (.slice (some ⟨g',0,none⟩) (pre.length+1) cap')).heap[w.heap.size+1]? =W.heap[w.heap.size+1]? :=
   ((grownBy_setCell' w1 w.heap.size _).block _ (by have:=hgrow.size;simp at this;omega) sp).trans ((hgrow.block _ (by simp;omega) hne).trans (Below.heap_alloc W _ _ hlt))
  exact⟨hk2.from _,⟨hb2,fun o ho=>hsame.trans ho⟩,⟨_,hv2,by simpa [B.ints]using hr2⟩,⟨u,hsame.trans hu⟩,hB.trans hb2⟩
 case done=>
  rintro D xs W hD rfl ⟨⟨v,hv,hrow⟩,_,hB⟩ hK
  have hc:=hv.cell
  gi_wp2
  refine⟨by simp,.inl ⟨_,_,rfl,run_takeDeferred hK,?_⟩⟩
  exact⟨_,results_tmp rfl _ _ _,v,rfl,ownsRow_putObj hrow _ hK rfl,hB.grown (grownBy_putObj' W D _) hB.size (fun k e=>by cases e;omega)⟩
namespace V
def last(v:Nat):Nat:=if v=4 then 6 else if v<8 then 5 else 0
def promos(v:Nat):List Nat:=List.range' 2 (last v-1)
def u8s(l:List Nat):List Value:=l.map fun(n:Nat)=>Value.int .u8 (n:Int)
theorem of_last(v:Nat):∃s a b c d e,V.of v= #[.string s,.bool a,.bool b,.bool c,.bool d,.bool e,.int .u8 (last v:Nat)]:=by
 by_cases h:v<9
 ·match v,h with
  |0,_|1,_|2,_|3,_|4,_|5,_|6,_|7,_|8,_=>exact⟨_,_,_,_,_,_,rfl⟩
 ·have hv:V.of v= #[.string ⟨#[]⟩,.bool false,.bool false,.bool false,.bool false,.bool false,.int .u8 0]:=by
   unfold V.of;split<;>first|omega|rfl
  have hl:last v=0:=by unfold last;rw [if_neg om,if_neg om]
  rw [hv,hl]
  exact⟨_,_,_,_,_,_,rfl⟩
theorem last_bd(v:Nat):last v≤6:=by unfold last;split;omega;split<;>omega
end V
theorem info_u8L:(prog.info? 5).map (fun i=>(i.zero,i.size,i.bytes))=some (some (.int .u8 0),1,1):=by kernel_rfl
theorem zdI(v:Nat)(w:World):
  Calls prog 339 #[.int .u8 (v:Int)] w fun e w'=>∃x,e= .returned x∧w'.ownsRow w.heap.size 5 1 x (V.promos v).length (V.u8s (V.promos v))∧Below w.heap.size w w':=by
 obtain⟨s,a,b,c,d,e,hof⟩:=V.of_last v
 have HO:Hid (∀w,Calls prog 185 #[.int .u8 (v:Int)] w fun e' w'=>e'= .returned (.agg #[.string s,.bool a,.bool b,.bool c,.bool d,.bool e,.int .u8 (V.last v:Nat)])∧Below w.heap.size w w'):=hid (fun w=>by rw [←hof];exact of_k v w)
 have hl6:=V.last_bd v
 obtain⟨l,hl⟩:∃l,V.last v=l:=⟨_,rfl⟩
 have HP:Hid (V.promos v=List.range' 2 (l-1)):=hid (by unfold V.promos;rw [hl])
 rw [hl]at HO hl6
 clear hof hl
 obtain⟨i0,hi,hz0,hz1,hz2⟩:=info_parts info_u8L
 have hfd:∀w,(Instr.field 224 (.agg #[.string s,.bool a,.bool b,.bool c,.bool d,.bool e,.int .u8 (l:Int)]) 5).run prog w= .ok (.int .u8 (l:Int)) w:=fun _=>by kernel_rfl
 go_enter func339,ntmps339
 go_wp2
 go_loopw [3,4] (fun x i wr=>∃n k:Nat,n≤l-1∧i= .int .u8 (k:Int)∧k=n+2∧wr.ownsRow w.heap.size 5 1 x (List.range' 2 n).length (V.u8s (List.range' 2 n))∧Below w.heap.size w wr) (fun _ i _=>8-(intOf i).toNat)
 case atStart=>exact⟨0,2,by omega,rfl,rfl,World.ownsRow_nil _ _ _ _,Below.refl _ _⟩
 case round=>
  obtain⟨n,k,hn,rfl,hk,hown,hbr⟩:=hrel
  by_cases hlt:k≤l
  ·have d1:decide (k≤l)=true:=by simp;omega
   have Hst:Hid (V.u8s (List.range' 2 n)++[.int .u8 (k:Int)]=V.u8s (List.range' 2 (n+1))):=hid (by
    unfold V.u8s;rw [List.range'_concat,hk];simp [Nat.add_comm])
   have hw8:IntKind.u8.wrap ((k:Int)+1)=(k:Int)+1:=by rw [IntKind.wrap_u8];omega
   have Hk:=hid (And.intro hk hlt)
   have hln:(List.range' 2 n).length≤10:=by simp;omega
   have Hn:=hid hn
   clear hlt hk hn
   go_wp2_with (first
    |(go_at_call 185;refine(HO _).mono ?_;rintro e w1 ⟨rfl,hb1⟩;replace hown:=zq hown hb1;replace hbr:=za hbr hb1;clear hb1;have hgs:=hbr.size)
    |(at_builtin;refine wpList_append_own _ rfl _ _ 219 rfl w.heap.size 5 i0 (.int .u8 0) 1 1 underlying219 hi hz0 hz1 hz2 rfl dc _ _ _ rfl (hown.alloc _) ⟨_,0,none⟩ 1 1 [.int .u8 (k:Int)] rfl rfl (cell_one_new _ _ _) (by simp [Value.oneCell']) (by unfold maxLen;omega) om (by simp;omega) ?_;intro v' w2 hown' hgrow _))
   refine⟨⟨n+1,k+1,by have:=Hk.out;omega,by go_num,by have:=Hk.out;omega,?_,?_⟩,by simp [intOf];have:=Hk.out;omega⟩
   ·rw [←Hst.out,List.length_range']
    simpa using hown'
   ·exact(hbr.alloc hbr.size _).grown hgrow (by simp;omega) (fun q hq=>by have:=(hown.lt q hq).1;omega)
  ·have d1:decide (k≤l)=false:=by simp;omega
   have hnl:n=l-1:=by omega
   have HP2:=hid (hnl▸HP.out)
   clear hnl hlt hk hn
   go_wp2_with (go_at_call 185;refine(HO _).mono ?_;rintro e w1 ⟨rfl,hb1⟩;replace hown:=zq hown hb1;replace hbr:=za hbr hb1;clear hb1)
   go_ret
   exact⟨_,rfl,by rw [HP2.out];exact hown,hbr⟩
end
section
open Go.RowKit Go.Sort
def KO(n0:Nat)(O:Nat→Prop)(W W':World):Prop:=Below n0 W W'∧∀b,O b→W'.heap[b]? =W.heap[b]?
theorem KO.refl(n0:Nat)(O:Nat→Prop)(W:World):KO n0 O W W:=⟨Below.refl _ _,fun _ _=>rfl⟩
theorem KO.trans{n0:Nat}{O:Nat→Prop}{A B C:World}(h:KO n0 O A B)(k:KO n0 O B C):KO n0 O A C:=⟨h.1.trans k.1,fun b hb=>(k.2 b hb).trans (h.2 b hb)⟩
theorem KO.put{n0:Nat}{O:Nat→Prop}(W:World)(l:Nat)(o':Obj)(hs:n0≤W.heap.size)(hl:n0≤l)(ho:¬O l):KO n0 O W (W.putObj l o'):=
 ⟨(Below.refl n0 W).grown (grownBy_putObj' W l o') hs (fun k e=>by cases e;omega),fun b hb=>World.putObj_heap_other (fun e=>ho (e▸hb))⟩
def Owns1{α:Type}(I:(Nat→Prop)→List α→World→Prop):Prop:=∀O O' s W W',I O s W→Below W.heap.size W W'→(∀b,O' b→O b∨(W.heap.size≤b∧b<W'.heap.size))→I O' s W'
def Owns2{α:Type}(I:(Nat→Prop)→List α→World→Prop):Prop:=∀O s W W' b,I O s W→O b→Put b W W'→I O s W'
section
variable {P:Program} {Q:Exit→Act→World→Prop} {n:Nat}
theorem zb0{α:Type}{g:Operand}{ps:Array Tmp}{assign body:Code}{a:Act}{w:World}{gf:Nat}{lb:Array Value}
  (n0:Nat) (hn0:n0≤w.heap.size) (O0:Nat→Prop) (hO0:∀b,O0 b→b<w.heap.size)
  (hg:a.eval g= .func (.func gf) #[] lb) (eg:∀args w,(callFunc gf args).run P w= .ok (.enter gf args) w)
  (encs:α→Array Value) (hps:∀x,(encs x).size=ps.size) (I:(Nat→Prop)→List α→World→Prop) (Ok:List α→α→World→Prop) (Ax:α→Act→World→Prop) (S:List α→Prop)
  (hI1:Owns1 I) (hI3:Owns2 I) (hI2:∀O s,Puts w.heap.size (I O s)) (hO2:∀s x,Puts w.heap.size (Ok s x)) (hA2:∀x a',Puts w.heap.size (Ax x a'))
  (hiter:∀(l:Nat) (J:(Nat→Prop)→List α→World→Prop) (W:World),Below w.heap.size w W→Owns1 J→Owns2 J→J O0 [] W→
   (∀O pre x W1,J O pre W1→Ok pre x W1→YieldAt Fence.wide (n-1-1) P l (encs x) W1 fun e W'=>e= .returned (.bool true)∧J O (pre++[x]) W'∧KO n0 O W1 W')→
   CallsIn Fence.wide (n-1) P gf (#[.func (.yield l) #[] #[]]++lb) W fun e W'=>(∃v,e= .returned v)∧∃O xs,S xs∧J O xs W')
  (h0:I O0 [] w)
  (hassign:∀(l:Nat) (O:Nat→Prop) (pre:List α) (x:α) (W:World) (K:Act→World→Prop),I O pre W→Ok pre x W→(∀a' W',KeepsFrom w.heap.size W W'→KO n0 O W W'→I O pre W'→Ok pre x W'→Ax x a' W'→K a' W')→
   assign.wpIn (Fence.wide.inRound l) (n-1-1) P (Exit.then K (fun _ _ _=>False)) {tmps:=(ps.zip (encs x)).foldl (fun t (p,v)=>t.setIfInBounds p v) a.tmps,defers:=[]} W)
  (hbody:∀(l:Nat) (O:Nat→Prop) (pre:List α) (x:α) (a':Act) (W:World),w.heap.size≤l→I O pre W→Ok pre x W→Ax x a' W→
   body.wpIn (Fence.wide.inRound l) (n-1-1) P (fun e _ W'=>e= .normal∧KeepsFrom w.heap.size W W'∧KO n0 O W W'∧I O (pre++[x]) W') a' W)
  (hdone:∀(D:Nat) (O:Nat→Prop) (xs:List α) (W:World),w.heap.size≤D→S xs→I O xs W→W.heap[D]? =some (.deferred (some []))→Q .normal {a with defers:={target:= .collected D,args:= #[]}::a.defers} W):
  (Code.rangeFunc g ps assign body).wpIn Fence.wide n P Q a w:=by
 refine wpIn_rangeFunc fun fn hfn=> ?_
 generalize hB:w.heap.size=B at*
 --the record of the loop;where it lies,and the block beneath it
 let rc:LoopState→Loop:=fun st=>{state:=st,pending:=none,fn,tmps:=a.tmps,params:=ps,assign,body,defers:=B}
 let Bk:World→Prop:=fun W=>W.heap[B+1]? =some (.loop (rc .ready))∧W.heap[B]? =some (.deferred (some []))
 have hBg:Grows Bk:=fun W W' h hb=>⟨(hb.block _ (Array.getElem?_eq_some_iff.1 h.1).1).trans h.1,(hb.block _ (Array.getElem?_eq_some_iff.1 h.2).1).trans h.2⟩
 let W1:World:=(w.alloc (.deferred (some []))).alloc (.loop (rc .ready))
 have hW1:Below B w W1:=by
  have:=((Below.refl w.heap.size w).alloc (Nat.le_refl _) (.deferred (some []))).alloc sp (.loop (rc .ready))
  rwa [hB]at this
 have hbk1:Bk W1:=by
  constructor
  ·have:=World.alloc_heap_new (w.alloc (.deferred (some []))) (.loop (rc .ready))
   rwa [World.size_alloc,hB]at this
  ·have:=(Below.heap_alloc (w.alloc (.deferred (some []))) (.loop (rc .ready)) w.heap.size sp).trans (World.alloc_heap_new w _)
   rwa [hB]at this
 have hI1':I O0 [] W1:=hI1 O0 O0 [] w W1 h0 (by rw [hB];exact hW1) (fun b hb=> .inl hb)
 refine⟨B+1,[{target:= .collected B,args:= #[]}],W1,{target:= .fn (.func gf) lb,args:= #[.func (.yield (B+1)) #[] #[]]},W1,gf,#[.func (.yield (B+1)) #[] #[]]++lb,W1,?_,?_,fun _ _=>trivial,?_,fun h=>by simp [Fence.wide]at h,?_⟩
 ·have:=run_enterLoop_outer (P:=P) (w:=w) fn a.tmps ps assign body
  rw [hB]at this
  exact this
 ·simp only [resolve,hg]
  simp [go_sem]
 ·simp [invoke,go_sem,eg]
 ·refine(hiter (B+1) (fun O s W=>I O s W∧Bk W∧¬O B∧¬O (B+1)) W1 hW1
   (fun O O' s W W' h hb ho=>⟨hI1 O O' s W W' h.1 hb ho,hBg W W' h.2.1 hb,fun hx=>(ho _ hx).elim h.2.2.1 (fun e=>by have:=(Array.getElem?_eq_some_iff.1 h.2.1.2).1;omega),fun hx=>(ho _ hx).elim h.2.2.2 (fun e=>by have:=(Array.getElem?_eq_some_iff.1 h.2.1.1).1;omega)⟩)
   (fun O s W W' b h hob hp=>⟨hI3 O s W W' b h.1 hob hp,⟨(hp.block _ (fun e=>h.2.2.2 (by rw [e];exact hob))).trans h.2.1.1,(hp.block _ (fun e=>h.2.2.1 (by rw [e];exact hob))).trans h.2.1.2⟩,h.2.2⟩)
   ⟨hI1',hbk1,fun h=>by have:=hO0 _ h;omega,fun h=>by have:=hO0 _ h;omega⟩ ?_).mono ?_
  ·rintro O pre x W ⟨hi,⟨hl,hk⟩,hnB,hnB1⟩ hok
   refine⟨fn,_,assign,body,run_yield (P:=P) hl (hps x),roundIn_of_wpIn trivial (hassign (B+1) O pre x W _ hi hok fun a' Wa hkf hkp hia hoa hax=> ?_)⟩
   have hla:=hkf.same _ _ (Nat.le_succ B) hl rfl
   have hka:=hkf.same _ _ (Nat.le_refl B) hk rfl
   refine⟨_,run_beginRound hla rfl,?_⟩
   have hlt:=(Array.getElem?_eq_some_iff.1 hla).1
   have hp:=hI2 O pre Wa (B+1) _ (.loop {rc .ready with state:= .busy}) hia (Nat.le_succ B) hla rfl
   have hkp2:KO n0 O Wa (Wa.putObj (B+1) (.loop {rc .ready with state:= .busy})):=KO.put Wa (B+1) _ om om hnB1
   refine wpIn_mono (hbody (B+1) O pre x a' _ (Nat.le_succ B) hp (hO2 pre x Wa (B+1) _ _ hoa (Nat.le_succ B) hla rfl) (hA2 x a' Wa (B+1) _ _ hax (Nat.le_succ B) hla rfl)) ?_
   rintro e a3 W3 ⟨rfl,hk3,hkp3,hi3⟩
   have hl3:=hk3.same (B+1) (.loop {rc .ready with state:= .busy}) (Nat.le_succ B) (World.putObj_heap_same hlt) rfl
   have hd3:=hk3.same B (.deferred (some [])) (Nat.le_refl B) ((World.putObj_heap_other om).trans hka) rfl
   refine⟨_,_,run_endRound (P:=P) none hl3,rfl,⟨hI2 O _ W3 (B+1) _ _ hi3 (Nat.le_succ B) hl3 rfl,⟨World.putObj_heap_same (Array.getElem?_eq_some_iff.1 hl3).1,(World.putObj_heap_other om).trans hd3⟩,hnB,hnB1⟩,?_⟩
   exact hkp.trans (hkp2.trans (hkp3.trans (KO.put W3 (B+1) _ (by have:=(Array.getElem?_eq_some_iff.1 hl3).1;omega) om hnB1)))
  ·rintro e W2 ⟨⟨v,rfl⟩,O,xs,hS,hi,⟨hl,hk⟩,_,_⟩
   exact⟨none,_,run_endLoop (P:=P) hl (by simp [rc]),hdone B O xs _ (Nat.le_refl B) hS (hI2 O _ W2 (B+1) _ _ hi (Nat.le_succ B) hl rfl) ((World.putObj_heap_other om).trans hk)⟩
end
end
end Go.Proofs.YtbakeajgolhkgaaGreatDoor
