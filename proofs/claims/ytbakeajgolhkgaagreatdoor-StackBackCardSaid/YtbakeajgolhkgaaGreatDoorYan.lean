import Derived.Test.YtbakeajgolhkgaaGreatDoorYae
import Derived.Test.YtbakeajgolhkgaaGreatDoorYaa
set_option maxRecDepth 100000
set_option maxHeartbeats 8000000
open Go.Lib (hid)
namespace Go.Proofs.YtbakeajgolhkgaaGreatDoor
open Go.Proofs.Tryz
open Go.RowKit Go.Sort
attribute [local go_sem] Oper.semAt_some
namespace Z
def sd(c:Nat→Int)(o h:BitVec 64):Array Value:=posC c++ #[.int .u64 (U o),.int .u64 (U h)]
theorem sd_size(c:Nat→Int)(o h:BitVec 64):(sd c o h).size=90:=by simp [sd,zC]
theorem sd_pos(c:Nat→Int)(o h:BitVec 64)(i:Nat)(hi:i<88):(sd c o h)[i]? =some (.int (pk i) (c i)):=by
 unfold sd
 rw [Array.getElem?_append_left (by rw [zC];exact hi),zE c i hi]
theorem sd_own(c:Nat→Int)(o h:BitVec 64):(sd c o h)[88]? =some (.int .u64 (U o)):=by
 unfold sd
 rw [Array.getElem?_append_right (by rw [zC];omega),zC];rfl
theorem sd_oth(c:Nat→Int)(o h:BitVec 64):(sd c o h)[89]? =some (.int .u64 (U h)):=by
 unfold sd
 rw [Array.getElem?_append_right (by rw [zC];omega),zC];rfl
theorem sd_one(c:Nat→Int)(o h:BitVec 64):(sd c o h).all (·.oneCell')=true:=by
 unfold sd
 rw [Array.all_append,zaG];simp [Value.oneCell']
def own(c:Nat→Int):BitVec 64:=S.of c (c 78) 0
def oth(c:Nat→Int):BitVec 64:=S.of c (1-c 78) 0
def passing(c:Nat→Int):BitVec 64:=B.one (c 83)
def rank(t s:Nat):Nat:=if t=1 then 7-s/8 else s/8
def ahead(t:Nat)(s:Int):Int:=if t=1 then s-8 else s+8
end Z
theorem zi3{c:Nat→Int}(h:PosOk c){i:Nat}(hi:i<88)(hk:pk i= .i8): -128≤c i∧c i≤127:=by
 have:=h i hi
 rw [hk]at this
 exact bounds_i8 this
theorem infoSd:(prog.info? 173).map (·.size)=some 90:=by kernel_rfl
theorem Z.info(c:Nat→Int)(o h:BitVec 64):(prog.info? 173).map (·.size)=some (Z.sd c o h).size:=by rw [Z.sd_size];exact infoSd
theorem Z.built(c:Nat→Int)(o h:BitVec 64):prog.built 173 [(0,.agg (posC c)),(1,.int .u64 (U o)),(2,.int .u64 (U h))]=some (Z.sd c o h):=by kernel_rfl
theorem zed(c:Nat→Int)(o h:BitVec 64)(w:World)(hc:PosOk c):
  cB 362 #[.agg (Z.sd c o h)] w (.int .u64 (U (Z.passing c))):=by
 have hp:=RowAt.new w (Z.sd c o h) 173
 have hb0:Below w.heap.size w (w.alloc (.cells (Z.sd c o h) 173)):=bA
 obtain⟨p0,p1⟩:=zi3 hc (i:=83) dc rfl
 have h83:=(hp.cell 83).trans (Z.sd_pos c o h 83 dc)
 rw [show pk 83= .i8 from rfl]at h83
 obtain⟨q,hq⟩:∃q,c 83=q:=⟨_,rfl⟩
 have Hq:=hid (show Z.passing c=B.one q by unfold Z.passing;rw [hq])
 rw [hq]at h83 p0 p1
 clear hq
 by_cases h1:q<0
 ·have e:=hid (B.one_out q (.inl h1))
  go_enter func362,ntmps362
  go_wp2
  go_ret
  exact⟨ret_int (by rw [Hq.out,e.out];rfl),hb0⟩
 ·by_cases h2:64≤q
  ·have e:=hid (B.one_out q (.inr h2))
   go_enter func362,ntmps362
   go_wp2
   go_ret
   exact⟨ret_int (by rw [Hq.out,e.out];rfl),hb0⟩
  ·have e:=hid (B.one_val q om om)
   have hw:IntKind.u64.wrap q=q:=by rw [IntKind.wrap_u64];omega
   go_enter func362,ntmps362
   go_wp2
   go_ret
   exact⟨ret_int (by rw [Hq.out,e.out]),hb0⟩
theorem xor56:∀s:Fin 64,(bits .xor .i64 ((s.val:Nat):Int) 56)=(((s.val+56-2*(8*(s.val/8)):Nat)):Int):=by decide+kernel
theorem zcZ(t s:Nat)(w:World)(hs:s<64):
  cR 338 #[.int .u8 (t:Int),.int .i64 (s:Int)] w (.int .i64 (Z.rank t s:Nat)) fun w'=>w=w':=by
 by_cases h:t=1
 ·subst h
  have hx:=xor56 ⟨s,hs⟩
  simp only at hx
  have E:=hid (show((s+56-2*(8*(s/8)):Nat):Int)/8=(Z.rank 1 s:Nat) by
   unfold Z.rank;rw [if_pos rfl]
   omega)
  go_enter func338,ntmps338
  go_wp2
  go_ret
  exact⟨ret_int (by rw [←E.out]),rfl⟩
 ·have E:=hid (show(s:Int)/8=(Z.rank t s:Nat) by
   unfold Z.rank;rw [if_neg h]
   omega)
  have h1:decide ((t:Int)=1)=false:=by simp;omega
  go_enter func338,ntmps338
  go_wp2
  go_ret
  exact⟨ret_int (by rw [←E.out]),rfl⟩
theorem zbq(t:Nat)(s:Int)(w:World)(h0: -1000≤s)(h1:s≤1000):
  cR 123 #[.int .u8 (t:Int),.int .i64 s] w (.int .i64 (Z.ahead t s)) fun w'=>w=w':=by
 have w1:wrap64 (s-8)=s-8:=IntWalk.wrap64_in _ ⟨by omega,by omega⟩
 have w2:wrap64 (s+8)=s+8:=IntWalk.wrap64_in _ ⟨by omega,by omega⟩
 by_cases h:t=1
 ·subst h
  have E:=hid (show Z.ahead 1 s=s-8 by unfold Z.ahead;rw [if_pos rfl])
  go_enter func123,ntmps123
  go_wp2
  go_ret
  exact⟨ret_int (by rw [E.out]),rfl⟩
 ·have E:=hid (show Z.ahead t s=s+8 by unfold Z.ahead;rw [if_neg h])
  have h1:decide ((t:Int)=1)=false:=by simp;omega
  go_enter func123,ntmps123
  go_wp2
  go_ret
  exact⟨ret_int (by rw [E.out]),rfl⟩
theorem Z.zero:zeroCells173=Z.sd (fun _=>0) 0#64 0#64:=by kernel_rfl
theorem zab{P:Program}{fn:Func}{p u:Tmp}{ty:TypeId}(h:fn.results= #[.cell p ty,.tmp u])(tmps:Array Value)(w:World)(g:Nat)(t:TypeId)(cs:Array Value)(fr:Nat×Nat)(d:TypeDesc)
  (hp:tmps.getD p undef= .pointer (some ⟨g,0,none⟩)) (hg:w.heap[g]? =some (.cells cs t fr))
  (hu:P.underlying ty=some d) (hd:(match d with| .struct _| .array _ _=>true|_=>false)=true) (hi:(P.info? ty).map (·.size)=some cs.size):
  (results fn tmps).run P w= .ok (.tuple #[.agg cs,tmps.getD u undef]) w:=by
 rw [results_cell_tmp h,hp]
 simp [asAddr,run_loadVar_row w g t ty cs fr d hg hu hd hi,Result.andThen]
theorem zek{P:Program}{C:World→Prop}{K:Act→Prop}{a:Act}{o:Oper}(t:TypeId)(parts:Array (Nat×Operand))(ho:o.op= .build t parts)(l:List (Nat×Value))(cells:Array Value)
  (hl:(parts.toList.map fun q=>(q.1,a.eval q.2))=l) (hb:P.built t l=some cells) (hk:K (a.put o.dst (.agg cells))):o.quiet P a C K:=by
 subst hl
 refine⟨.agg cells,fun w _=> ?_,hk⟩
 unfold Oper.quietAt execOp
 simp only [ho]
 have h:=run_build w t (parts.map fun(i,x)=>(i,a.eval x)) cells (by rw [Array.toList_map];exact hb)
 simp only [Sem.run_bind,h,Result.andThen_ok,Sem.run_pure]
 exact⟨rfl,rfl⟩
namespace Z
def ok(c:Nat→Int):Bool:=decide (c 78≤1∧c 0<9)
def ofV(c:Nat→Int):Value:=if ok c then .tuple #[.agg (sd c (own c) (oth c)),.bool true]else .tuple #[.agg (sd (fun _=>0) 0#64 0#64),.bool false]
end Z
theorem zc3(c:Nat→Int)(w:World)(hc:PosOk c):
  cB 121 #[.agg (posC c)] w (Z.ofV c):=by
 have hcb:=zw hc
 have Hc:=hid hcb
 clear hcb
 have hb0:Below w.heap.size w (w.alloc (.cells (posC c) 31)):=bA
 have hp:=PosAt.new w c
 obtain⟨v0,v1⟩:=zp hc (i:=0) dc rfl
 obtain⟨t0,t1⟩:=zp hc (i:=78) dc rfl
 have h0:=hp.cell (i:=0) dc
 rw [show pk 0= .u8 from rfl]at h0
 have h78:=hp.cell (i:=78) dc
 rw [show pk 78= .u8 from rfl]at h78
 have hz0:((w.alloc (.cells (posC c) 31)).alloc (.cells zeroCells173 173)).heap[w.heap.size+1]? =some (.cells zeroCells173 173 (0,0)):=by
  have:=heap_alloc_new (w.alloc (.cells (posC c) 31)) (.cells zeroCells173 173)
  rwa [World.size_alloc]at this
 have hzi:(prog.info? 173).map (·.size)=some zeroCells173.size:=by rw [Z.zero];exact Z.info _ _ _
 have hz1:zeroCells173.all (·.oneCell')=true:=by rw [Z.zero];exact Z.sd_one _ _ _
 by_cases h1:1<c 78
 ·have E:=hid (show Z.ofV c= .tuple #[.agg zeroCells173,.bool false] by
   unfold Z.ofV Z.ok
   rw [decide_eq_false om,Z.zero];rfl)
  go_enter func121,ntmps121
  go_wp2_with (refine zb rfl 173 _ _ rfl ⟨w.heap.size+1,173,zeroCells173,rfl,rfl,⟨_,hz0,rfl⟩,hzi,hz1,?_⟩;intro W' hP hR)
  exact bodyPost_ret (zab results121 _ _ (w.heap.size+1) _ _ _ _ rfl hR.heap underlying173 rfl hzi) rfl ⟨by rw [E.out];rfl,hP.below ((hb0.alloc sp _)) om⟩
 ·by_cases h2:9≤c 0
  ·have E:=hid (show Z.ofV c= .tuple #[.agg zeroCells173,.bool false] by
    unfold Z.ofV Z.ok
    rw [decide_eq_false om,Z.zero];rfl)
   go_enter func121,ntmps121
   go_wp2_with (refine zb rfl 173 _ _ rfl ⟨w.heap.size+1,173,zeroCells173,rfl,rfl,⟨_,hz0,rfl⟩,hzi,hz1,?_⟩;intro W' hP hR)
   exact bodyPost_ret (zab results121 _ _ (w.heap.size+1) _ _ _ _ rfl hR.heap underlying173 rfl hzi) rfl ⟨by rw [E.out];rfl,hP.below ((hb0.alloc sp _)) om⟩
  ·have E:=hid (show Z.ofV c= .tuple #[.agg (Z.sd c (Z.own c) (Z.oth c)),.bool true] by
    unfold Z.ofV Z.ok
    rw [decide_eq_true om];rfl)
   have hw:IntKind.u8.wrap (1-c 78)=1-c 78:=by rw [IntKind.wrap_u8];omega
   go_enter func121,ntmps121
   go_wp2_with fail
   have hpW:=hp.alloc (.cells zeroCells173 173)
   have hbW:=hb0.alloc sp (.cells zeroCells173 173)
   have hsz:((w.alloc (.cells (posC c) 31)).alloc (.cells zeroCells173 173)).heap.size=w.heap.size+2:=by simp
   clear h0 h78 hp hb0
   obtain⟨W,hW⟩:∃W,((w.alloc (.cells (posC c) 31)).alloc (.cells zeroCells173 173))=W:=⟨_,rfl⟩
   rw [hW]at hz0 hpW hbW hsz⊢
   clear hW
   have h78:=hpW.cell (i:=78) dc
   rw [show pk 78= .u8 from rfl]at h78
   have l3:=hpW.lt
   have hheap:=hpW.heap
   refine zl (n:=11) kr kr ?_
   simp only [List.take_succ_cons,List.take_zero,List.drop_succ_cons,List.drop_zero]
   repeat(first
    |(refine BigFrame.wpQuiet_want rfl (fun Kq hKq=>zu _ rfl c ⟨_,_,_,rfl,fun w' ⟨p,e⟩=>(by rw [e,zG _ _ _ _ l3];exact hheap)⟩ (hKq _ ?_)))
    |(refine BigFrame.wpQuiet_want rfl (fun Kq hKq=>zek 173 _ rfl [(0,.agg (posC c)),(1,.int .u64 (U (Z.own c))),(2,.int .u64 (U (Z.oth c)))] (Z.sd c (Z.own c) (Z.oth c)) rfl (Z.built c (Z.own c) (Z.oth c)) (hKq _ ?_)))
    |quiet_step (first|(go_at_call 134;exact zd (zO c _ _ _ Hc))))
   refine wpQuiet_nil ?_
   intro W' hb'
   have hz':=(hb'.block (w.heap.size+1) om).trans hz0
   have hB':=hid (za hbW hb')
   clear hz0 hpW hbW h78 hb' hheap
   go_wp2_with (refine zb rfl 173 _ _ rfl ⟨w.heap.size+1,173,Z.sd c (Z.own c) (Z.oth c),rfl,rfl,⟨_,hz',by rw [Z.sd_size];rfl⟩,Z.info _ _ _,Z.sd_one _ _ _,?_⟩;intro W2 hP hR)
   exact bodyPost_ret (zab results121 _ _ (w.heap.size+1) _ _ _ _ rfl hR.heap underlying173 rfl (Z.info _ _ _)) rfl ⟨by rw [E.out];rfl,hP.below hB'.out om⟩
namespace Z
def pout(c:Nat→Int)(h:BitVec 64)(s:Nat):BitVec 64:=bAnd (R.pawn (c 78) (s:Int)) (bOr h (passing c))
def one(t s:Nat):Nat:=(ahead t (s:Int)).toNat
def from2(c:Nat→Int)(r:Nat):Bool:=decide (r=1)||(decide (r=0)&&(decide (c 0=7)&&decide (c 78=0)))
def pawn(c:Nat→Int)(o h:BitVec 64)(t s:Nat):BitVec 64:=
 if rank t s=7 then pout c h s
 else if bit (bOr o h) (one t s)=true then pout c h s
 else if from2 c (rank t s)=true then bOr (bOr (pout c h s) (B.one (one t s:Nat))) (bAndn (B.one (one t (one t s):Nat)) (bOr o h))
 else bOr (pout c h s) (B.one (one t s:Nat))
theorem ahead_one(t s:Nat)(hs:s<64)(hr:rank t s≠7):ahead t (s:Int)=((one t s:Nat):Int)∧one t s<64:=by
 unfold one ahead rank at*
 split at hr<;>simp_all<;>omega
theorem ahead_two(t s:Nat)(hs:s<64)(hr:rank t s≤1):ahead t ((one t s:Nat):Int)=((one t (one t s):Nat):Int)∧one t (one t s)<64:=by
 unfold one ahead rank at*
 split at hr<;>simp_all<;>omega
end Z
theorem zcl{P:Program}{C:World→Prop}{K:Act→Prop}{a:Act}{o:Oper}(ty:TypeId)(x:Operand)(ho:o.op= .load ty x)(cs:Array Value){d:TypeDesc}(hu:P.underlying ty=some d)(hd:(match d with| .struct _| .array _ _=>true|_=>false)=true)(hi:(P.info? ty).map (·.size)=some cs.size)
  (hx:∃g t fr,a.eval x= .pointer (some ⟨g,0,none⟩)∧∀w,C w→w.heap[g]? =some (.cells cs t fr)) (hk:K (a.put o.dst (.agg cs))):o.quiet P a C K:=by
 obtain⟨g,t,fr,h1,hg⟩:=hx
 refine⟨.agg cs,fun w hw=> ?_,hk⟩
 unfold Oper.quietAt execOp
 simp only [ho,h1,Instr.loadAt,Instr.sureAddr,Sem.run_bind,Sem.run_pure,Result.andThen_ok,run_loadVar_row w g t ty cs fr d (hg w hw) hu hd hi]
 exact⟨rfl,rfl⟩
theorem zfI(c:Nat→Int)(o h:BitVec 64)(t s:Nat)(w:World)(hc:PosOk c)(hs:s<64)(ht:c 78=(t:Int))(ht1:t≤1):
  cB 333 #[.agg (Z.sd c o h),.int .i64 (s:Int)] w (.int .u64 (U (Z.pawn c o h t s))):=by
 have hp:=RowAt.new w (Z.sd c o h) 173
 have hb0:Below w.heap.size w (w.alloc (.cells (Z.sd c o h) 173)):=bA
 obtain⟨W,hW⟩:∃W,w.alloc (.cells (Z.sd c o h) 173)=W:=⟨_,rfl⟩
 have Hc:=hid hc
 obtain⟨v0,v1⟩:=zp hc (i:=0) dc rfl
 obtain⟨v,hv⟩:∃v:Nat,c 0=(v:Int):=⟨(c 0).toNat,by omega⟩
 rw [hW]at hp hb0
 have l3:=hp.lt
 have hheap:=hp.heap
 have hown:=(hp.cell 88).trans (Z.sd_own c o h)
 have hoth:=(hp.cell 89).trans (Z.sd_oth c o h)
 have h78:=(hp.cell 78).trans (Z.sd_pos c o h 78 dc)
 rw [show pk 78= .u8 from rfl,ht]at h78
 go_enter func333,ntmps333
 go_wp2_with fail
 refine rB ?_
 repeat(first
  |(refine BigFrame.wpQuiet_want rfl (fun Kq hKq=>zcl 173 _ rfl (Z.sd c o h) underlying173 rfl (Z.info _ _ _) ⟨_,_,_,rfl,fun w' ⟨p,e⟩=>(by rw [e,zG _ _ _ _ l3];exact hheap)⟩ (hKq _ ?_)))
  |quiet_step (first
   |(go_at_call 362;exact zd (zed c _ _ _ Hc))
   |(go_at_call 133;exact zd (za9 _ _ _))))
 refine wpQuiet_nil ?_
 intro W' hb'
 have hp2:=hp.below hb'
 have hb2:=za hb0 hb'
 clear hown hoth h78 hp hheap hb0 hb' l3 hW
 have hown:=(hp2.cell 88).trans (Z.sd_own c o h)
 have hoth:=(hp2.cell 89).trans (Z.sd_oth c o h)
 have h0:=(hp2.cell 0).trans (Z.sd_pos c o h 0 dc)
 rw [show pk 0= .u8 from rfl,hv]at h0
 obtain⟨r,hr⟩:∃r,Z.rank t s=r:=⟨_,rfl⟩
 have HR:Hid (∀(w:World) (T:Int),T=(t:Int)→cR 338 #[.int .u8 T,.int .i64 (s:Int)] w (.int .i64 (r:Int)) fun w'=>w=w'):=hid (fun w T e=>by rw [e,←hr];exact zcZ t s w hs)
 obtain⟨X,hX⟩:∃X,bAnd (R.pawn (t:Int) (s:Int)) (bOr h (Z.passing c))=X:=⟨_,rfl⟩
 rw [hX]
 have hXp:Z.pout c h s=X:=by unfold Z.pout;rw [ht];exact hX
 have Hb:=hid hb2
 have HP:Hid (Z.pawn c o h t s=if r=7 then X else if bit (bOr o h) (Z.one t s)=true then X else if Z.from2 c r=true then bOr (bOr X (B.one (Z.one t s:Nat))) (bAndn (B.one (Z.one t (Z.one t s):Nat)) (bOr o h))else bOr X (B.one (Z.one t s:Nat))):=hid (by unfold Z.pawn;rw [hr,hXp])
 clear hXp hX hb2 hp2
 by_cases h7:r=7
 ·have H7:=hid h7
  have d7:((r:Int)==7)=true:=by simp;omega
  clear h7 hr
  go_wp2_with (go_at_call 338;refine(HR _ _ (by first|rfl|omega)).mono ?_;rintro e w' ⟨rfl,rfl⟩)
  go_ret
  exact⟨ret_int (by rw [HP.out,if_pos H7.out]),Hb⟩
 ·have hr7:=h7
  have H7:=hid h7
  have d7:((r:Int)==7)=false:=by simp;omega
  obtain⟨ha,hn⟩:=Z.ahead_one t s hs (by rw [hr];exact h7)
  have HA2:=hid (Z.ahead_two t s hs)
  obtain⟨n,hne⟩:∃n,Z.one t s=n:=⟨_,rfl⟩
  rw [hne]at ha hn HP HA2
  have HA:Hid (∀(w:World) (T:Int),T=(t:Int)→cR 123 #[.int .u8 T,.int .i64 (s:Int)] w (.int .i64 (n:Int)) fun w'=>w=w'):=hid (fun w T e=>by rw [e,←ha];exact zbq t s w om om)
  have hwn:IntKind.u64.wrap (n:Int)=n:=by rw [IntKind.wrap_u64];omega
  have hone:=B.one_val (n:Int) om om
  have hdiv:U (bOr o h)/2 ^ n=U (bShr (bOr o h) n):=by have:=zaC (bOr o h) n;rwa [Nat.min_eq_left om]at this
  have hsh:bit (bShr (bOr o h) n) 0=bit (bOr o h) n:=by rw [zgB,Nat.add_zero]
  simp only [Int.toNat_natCast]at hone
  clear h7 ha hne
  by_cases hbt:bit (bOr o h) n=true
  ·have hq:(bv1 (bit (bShr (bOr o h) n) 0)==1)=true:=by rw [hsh,hbt];rfl
   have Hbt:=hid hbt
   clear hsh hbt hr hr7
   go_wp2_with (first|(go_at_call 338;refine(HR _ _ (by first|rfl|omega)).mono ?_;rintro e w' ⟨rfl,rfl⟩)|(go_at_call 123;with_reducible refine(HA.out _ _ (by first|rfl|omega)).mono ?_;rintro e w' ⟨rfl,rfl⟩))
   go_ret
   exact⟨ret_int (by rw [HP.out,if_neg H7.out,if_pos Hbt.out]),Hb⟩
  ·have hq:(bv1 (bit (bShr (bOr o h) n) 0)==1)=false:=by rw [hsh,Bool.not_eq_true _|>.mp hbt];rfl
   have Hbt:=hid hbt
   clear hsh hbt
   by_cases h1:r=1
   ·have d1:((r:Int)==1)=true:=by simp;omega
    have HF:=hid (show Z.from2 c r=true by unfold Z.from2;rw [hv,ht];simp;omega)
    obtain⟨hb1,hm⟩:=HA2 (by rw [hr];omega)
    obtain⟨m,hme⟩:∃m,Z.one t n=m:=⟨_,rfl⟩
    rw [hme]at hb1 hm HP
    have HB:Hid (∀(w:World) (T:Int),T=(t:Int)→cR 123 #[.int .u8 T,.int .i64 (n:Int)] w (.int .i64 (m:Int)) fun w'=>w=w'):=hid (fun w T e=>by rw [e,←hb1];exact zbq t n w om om)
    have hwm:IntKind.u64.wrap (m:Int)=m:=by rw [IntKind.wrap_u64];omega
    have hone2:=B.one_val (m:Int) om om
    simp only [Int.toNat_natCast]at hone2
    clear hr hr7 hme hb1
    go_wp2_with (first|(go_at_call 338;refine(HR _ _ (by first|rfl|omega)).mono ?_;rintro e w' ⟨rfl,rfl⟩)|(go_at_call 123;with_reducible refine(HA.out _ _ (by first|rfl|omega)).mono ?_;rintro e w' ⟨rfl,rfl⟩)|(go_at_call 123;with_reducible refine(HB.out _ _ (by first|rfl|omega)).mono ?_;rintro e w' ⟨rfl,rfl⟩))
    go_ret
    exact⟨ret_int (by rw [HP.out,if_neg H7.out,if_neg Hbt.out,if_pos HF.out]),Hb⟩
   ·have d1:((r:Int)==1)=false:=by simp;omega
    by_cases h0r:r=0
    ·have d0:((r:Int)==0)=true:=by simp;omega
     by_cases hv7:v=7
     ·have dv:((v:Int)==7)=true:=by simp;omega
      by_cases ht0:t=0
      ·have dt:((t:Int)==0)=true:=by simp;omega
       have HF:=hid (show Z.from2 c r=true by unfold Z.from2;rw [hv,ht];simp;omega)
       obtain⟨hb1,hm⟩:=HA2 (by rw [hr];omega)
       obtain⟨m,hme⟩:∃m,Z.one t n=m:=⟨_,rfl⟩
       rw [hme]at hb1 hm HP
       have HB:Hid (∀(w:World) (T:Int),T=(t:Int)→cR 123 #[.int .u8 T,.int .i64 (n:Int)] w (.int .i64 (m:Int)) fun w'=>w=w'):=hid (fun w T e=>by rw [e,←hb1];exact zbq t n w om om)
       have hwm:IntKind.u64.wrap (m:Int)=m:=by rw [IntKind.wrap_u64];omega
       have hone2:=B.one_val (m:Int) om om
       simp only [Int.toNat_natCast]at hone2
       clear hr hr7 hme hb1
       go_wp2_with (first|(go_at_call 338;refine(HR _ _ (by first|rfl|omega)).mono ?_;rintro e w' ⟨rfl,rfl⟩)|(go_at_call 123;with_reducible refine(HA.out _ _ (by first|rfl|omega)).mono ?_;rintro e w' ⟨rfl,rfl⟩)|(go_at_call 123;with_reducible refine(HB.out _ _ (by first|rfl|omega)).mono ?_;rintro e w' ⟨rfl,rfl⟩))
       go_ret
       exact⟨ret_int (by rw [HP.out,if_neg H7.out,if_neg Hbt.out,if_pos HF.out]),Hb⟩
      ·have dt:((t:Int)==0)=false:=by simp;omega
       have HF:=hid (show¬Z.from2 c r=true by unfold Z.from2;rw [hv,ht];simp;omega)
       clear hr hr7
       go_wp2_with (first|(go_at_call 338;refine(HR _ _ (by first|rfl|omega)).mono ?_;rintro e w' ⟨rfl,rfl⟩)|(go_at_call 123;with_reducible refine(HA.out _ _ (by first|rfl|omega)).mono ?_;rintro e w' ⟨rfl,rfl⟩))
       go_ret
       exact⟨ret_int (by rw [HP.out,if_neg H7.out,if_neg Hbt.out,if_neg HF.out]),Hb⟩
     ·have dv:((v:Int)==7)=false:=by simp;omega
      have HF:=hid (show¬Z.from2 c r=true by unfold Z.from2;rw [hv,ht];simp;omega)
      clear hr hr7
      go_wp2_with (first|(go_at_call 338;refine(HR _ _ (by first|rfl|omega)).mono ?_;rintro e w' ⟨rfl,rfl⟩)|(go_at_call 123;with_reducible refine(HA.out _ _ (by first|rfl|omega)).mono ?_;rintro e w' ⟨rfl,rfl⟩))
      go_ret
      exact⟨ret_int (by rw [HP.out,if_neg H7.out,if_neg Hbt.out,if_neg HF.out]),Hb⟩
    ·have d0:((r:Int)==0)=false:=by simp;omega
     have HF:=hid (show¬Z.from2 c r=true by unfold Z.from2;rw [hv,ht];simp;omega)
     clear hr hr7
     go_wp2_with (first|(go_at_call 338;refine(HR _ _ (by first|rfl|omega)).mono ?_;rintro e w' ⟨rfl,rfl⟩)|(go_at_call 123;with_reducible refine(HA.out _ _ (by first|rfl|omega)).mono ?_;rintro e w' ⟨rfl,rfl⟩))
     go_ret
     exact⟨ret_int (by rw [HP.out,if_neg H7.out,if_neg Hbt.out,if_neg HF.out]),Hb⟩
namespace Z
def base(c:Nat→Int)(o h:BitVec 64)(s:Nat)(k:Int):BitVec 64:=
 if k=1 then pawn c o h (c 78).toNat s else if k=2 then R.knight s else if k=3 then L.bishop s (bOr o h)else if k=4 then L.rook s (bOr o h)else if k=5 then L.queen s (bOr o h)
 else if k=6 then(if c 0=3 then bAndn (R.king s) h else R.king s)else 0#64
def dest(c:Nat→Int)(o h:BitVec 64)(s:Nat):BitVec 64:=bAndn (base c o h s (P.kind (c (1+s)))) o
end Z
theorem zi2(c:Nat→Int)(o h:BitVec 64)(s:Nat)(w:World)(hc:PosOk c)(hT:Tb w)(hs:s<64)(ht:c 78≤1):
  cB 274 #[.agg (Z.sd c o h),.int .i64 (s:Int)] w (.int .u64 (U (Z.dest c o h s))):=by
 have hp:=RowAt.new w (Z.sd c o h) 173
 have hb0:Below w.heap.size w (w.alloc (.cells (Z.sd c o h) 173)):=bA
 have HT:=hid (zi hT hb0)
 obtain⟨W,hW⟩:∃W,w.alloc (.cells (Z.sd c o h) 173)=W:=⟨_,rfl⟩
 have Hc:=hid hc
 obtain⟨v0,v1⟩:=zp hc (i:=0) dc rfl
 obtain⟨t0,_⟩:=zp hc (i:=78) dc rfl
 obtain⟨b0,b1⟩:=zp hc (i:=1+s) om (zk hs)
 obtain⟨v,hv⟩:∃v:Nat,c 0=(v:Int):=⟨(c 0).toNat,by omega⟩
 rw [hW]at hp hb0 HT
 have hown:=(hp.cell 88).trans (Z.sd_own c o h)
 have hoth:=(hp.cell 89).trans (Z.sd_oth c o h)
 have h0:=(hp.cell 0).trans (Z.sd_pos c o h 0 dc)
 rw [show pk 0= .u8 from rfl,hv]at h0
 have hsq:=(hp.cell (1+s)).trans (Z.sd_pos c o h (1+s) om)
 rw [zk hs]at hsq
 obtain⟨x,hx⟩:∃x,c (1+s)=x:=⟨_,rfl⟩
 rw [hx]at hsq b0 b1
 obtain⟨k,hk⟩:∃k,P.kind x=k:=⟨_,rfl⟩
 have HK:Hid (∀w,cR 122 #[.int .u8 x] w (.int .u8 k) fun w'=>w=w'):=hid (fun w=>by rw [←hk];exact zaF x w b0 b1)
 have HP:Hid (∀w,cB 333 #[.agg (Z.sd c o h),.int .i64 (s:Int)] w (.int .u64 (U (Z.pawn c o h (c 78).toNat s)))):=hid (fun w=>zfI c o h _ s w hc hs om om)
 have HD:Hid (Z.dest c o h s=bAndn (Z.base c o h s k) o):=hid (by unfold Z.dest;rw [hx,hk])
 have hRow:=hid hp
 have Hb:=hid hb0
 have hWid:W.heap.size=w.heap.size+1:=by rw [←hW];simp
 clear hx hk hb0 hp hc hT
 by_cases k1:k=1
 ·subst k1
  have E:=hid (show Z.dest c o h s=bAndn (Z.pawn c o h (c 78).toNat s) o by rw [HD.out];unfold Z.base;rfl)
  go_enter func274,ntmps274
  go_wp2_with (first|(go_at_call 122;refine(HK _).mono ?_;rintro e w' ⟨rfl,rfl⟩)|(refine zj rfl 173 _ rfl underlying173 rfl ⟨w.heap.size,173,Z.sd c o h,rfl,hRow.out,Z.info _ _ _,?_⟩)|(go_at_call 333;refine(HP _).mono ?_;rintro e w1 ⟨rfl,hb1⟩;have hp1:=hRow.out.below hb1;have hown1:=(hp1.cell 88).trans (Z.sd_own c o h);have hoth1:=(hp1.cell 89).trans (Z.sd_oth c o h);have h01:=(hp1.cell 0).trans (Z.sd_pos c o h 0 dc);rw [show pk 0= .u8 from rfl,hv]at h01))
  go_ret
  exact⟨ret_int (by rw [E.out]),za Hb hb1⟩
 ·have q1:(k==1)=false:=by simp;omega
  by_cases k2:k=2
  ·subst k2
   have E:=hid (show Z.dest c o h s=bAndn (R.knight s) o by rw [HD.out];unfold Z.base;rfl)
   go_enter func274,ntmps274
   go_wp2_with (first|(go_at_call 122;refine(HK _).mono ?_;rintro e w' ⟨rfl,rfl⟩)|(go_at_call 334;refine(zcD _ _).mono ?_;rintro e w1 ⟨rfl,hb1⟩;have hp1:=hRow.out.below hb1;have hown1:=(hp1.cell 88).trans (Z.sd_own c o h);have hoth1:=(hp1.cell 89).trans (Z.sd_oth c o h);have h01:=(hp1.cell 0).trans (Z.sd_pos c o h 0 dc);rw [show pk 0= .u8 from rfl,hv]at h01))
   go_ret
   exact⟨ret_int (by rw [E.out]),za Hb hb1⟩
  ·have q2:(k==2)=false:=by simp;omega
   by_cases k3:k=3
   ·subst k3
    have E:=hid (show Z.dest c o h s=bAndn (L.bishop s (bOr o h)) o by rw [HD.out];unfold Z.base;rfl)
    go_enter func274,ntmps274
    go_wp2_with (first|(go_at_call 122;refine(HK _).mono ?_;rintro e w' ⟨rfl,rfl⟩)|(go_at_call 335;refine(zbJ _ _ _ HT).mono ?_;rintro e w1 ⟨rfl,hb1⟩;have hp1:=hRow.out.below hb1;have hown1:=(hp1.cell 88).trans (Z.sd_own c o h);have hoth1:=(hp1.cell 89).trans (Z.sd_oth c o h);have h01:=(hp1.cell 0).trans (Z.sd_pos c o h 0 dc);rw [show pk 0= .u8 from rfl,hv]at h01))
    go_ret
    exact⟨ret_int (by rw [E.out]),za Hb hb1⟩
   ·have q3:(k==3)=false:=by simp;omega
    by_cases k4:k=4
    ·subst k4
     have E:=hid (show Z.dest c o h s=bAndn (L.rook s (bOr o h)) o by rw [HD.out];unfold Z.base;rfl)
     go_enter func274,ntmps274
     go_wp2_with (first|(go_at_call 122;refine(HK _).mono ?_;rintro e w' ⟨rfl,rfl⟩)|(go_at_call 336;refine(zcU _ _ _ HT).mono ?_;rintro e w1 ⟨rfl,hb1⟩;have hp1:=hRow.out.below hb1;have hown1:=(hp1.cell 88).trans (Z.sd_own c o h);have hoth1:=(hp1.cell 89).trans (Z.sd_oth c o h);have h01:=(hp1.cell 0).trans (Z.sd_pos c o h 0 dc);rw [show pk 0= .u8 from rfl,hv]at h01))
     go_ret
     exact⟨ret_int (by rw [E.out]),za Hb hb1⟩
    ·have q4:(k==4)=false:=by simp;omega
     by_cases k5:k=5
     ·subst k5
      have E:=hid (show Z.dest c o h s=bAndn (L.queen s (bOr o h)) o by rw [HD.out];unfold Z.base;rfl)
      go_enter func274,ntmps274
      go_wp2_with (first|(go_at_call 122;refine(HK _).mono ?_;rintro e w' ⟨rfl,rfl⟩)|(go_at_call 337;refine(zdj _ _ _ HT).mono ?_;rintro e w1 ⟨rfl,hb1⟩;have hp1:=hRow.out.below hb1;have hown1:=(hp1.cell 88).trans (Z.sd_own c o h);have hoth1:=(hp1.cell 89).trans (Z.sd_oth c o h);have h01:=(hp1.cell 0).trans (Z.sd_pos c o h 0 dc);rw [show pk 0= .u8 from rfl,hv]at h01))
      go_ret
      exact⟨ret_int (by rw [E.out]),za Hb hb1⟩
     ·have q5:(k==5)=false:=by simp;omega
      by_cases k6:k=6
      ·subst k6
       by_cases h3:v=3
       ·have d3:((v:Int)==3)=true:=by simp;omega
        have h3':=h3
        have E:=hid (show Z.dest c o h s=bAndn (bAndn (R.king s) h) o by rw [HD.out];unfold Z.base;rw [hv];subst h3;rfl)
        clear h3 h3'
        go_enter func274,ntmps274
        go_wp2_with (first|(go_at_call 122;refine(HK _).mono ?_;rintro e w' ⟨rfl,rfl⟩)|(go_at_call 202;refine(zao _ _).mono ?_;rintro e w1 ⟨rfl,hb1⟩;have hp1:=hRow.out.below hb1;have hown1:=(hp1.cell 88).trans (Z.sd_own c o h);have hoth1:=(hp1.cell 89).trans (Z.sd_oth c o h);have h01:=(hp1.cell 0).trans (Z.sd_pos c o h 0 dc);rw [show pk 0= .u8 from rfl,hv]at h01))
        go_ret
        exact⟨ret_int (by rw [E.out]),za Hb hb1⟩
       ·have d3:((v:Int)==3)=false:=by simp;omega
        have E:=hid (show Z.dest c o h s=bAndn (R.king s) o by rw [HD.out];unfold Z.base;rw [hv,if_neg (show¬(v:Int)=3 by omega)];rfl)
        clear h3
        go_enter func274,ntmps274
        go_wp2_with (first|(go_at_call 122;refine(HK _).mono ?_;rintro e w' ⟨rfl,rfl⟩)|(go_at_call 202;refine(zao _ _).mono ?_;rintro e w1 ⟨rfl,hb1⟩;have hp1:=hRow.out.below hb1;have hown1:=(hp1.cell 88).trans (Z.sd_own c o h);have hoth1:=(hp1.cell 89).trans (Z.sd_oth c o h);have h01:=(hp1.cell 0).trans (Z.sd_pos c o h 0 dc);rw [show pk 0= .u8 from rfl,hv]at h01))
        go_ret
        exact⟨ret_int (by rw [E.out]),za Hb hb1⟩
      ·have q6:(k==6)=false:=by simp;omega
       have E0:=hid (show Z.base c o h s k=0#64 by unfold Z.base;rw [if_neg k1,if_neg k2,if_neg k3,if_neg k4,if_neg k5,if_neg k6])
       clear k1 k2 k3 k4 k5 k6
       have E:=hid (show Z.dest c o h s=bAndn (0#64) o by rw [HD.out];exact congrArg (fun x=>bAndn x o) E0)
       go_enter func274,ntmps274
       go_wp2_with (first|(go_at_call 122;refine(HK _).mono ?_;rintro e w' ⟨rfl,rfl⟩))
       go_ret
       exact⟨ret_int (by rw [E.out];exact za1 0#64 o),Hb⟩
namespace Z
def mv(a b k:Nat):Mv:=((a:Int),(b:Int),(k:Int),0,false)
def eachL(c:Nat→Int)(t a b:Nat):List Mv:=if P.kind (c (1+a))=1∧rank t b=7 then(V.promos (c 0).toNat).map (mv a b)else [mv a b 0]
def enc(m:Mv):Array Value:= #[.agg (M.cell m).toArray]
theorem one_of(c:Nat→Int)(t a b:Nat)(h:¬(P.kind (c (1+a))=1∧rank t b=7)):eachL c t a b=[mv a b 0]:=by unfold eachL;rw [if_neg h]
end Z
theorem zhw(n l:Nat)(n0:Nat)(c:Nat→Int)(o h:BitVec 64)(t a b:Nat)(hc:PosOk c)(ha:a<64)(hb:b<64)(ht:c 78=(t:Int))(J:(Nat→Prop)→List Mv→World→Prop)(O:Nat→Prop)(pre:List Mv)(W:World)
  (hJ1:Owns1 J) (hJ:J O pre W) (hn0:n0≤W.heap.size) (hO:∀q,O q→q<W.heap.size) (hone:¬(P.kind (c (1+a))=1∧Z.rank t b=7))
  (hY:∀O' W1,J O' pre W1→YieldAt Fence.wide (n-1) prog l (Z.enc (Z.mv a b 0)) W1 fun e W'=>e= .returned (.bool true)∧J O' (pre++[Z.mv a b 0]) W'∧KO n0 O' W1 W'):
  CallsIn Fence.wide n prog 275 #[.agg (Z.sd c o h),.agg (M.cell (Z.mv a b 0)).toArray,.func (.yield l) #[] #[]] W fun e W'=>e= .returned (.bool true)∧J O (pre++[Z.mv a b 0]) W'∧KO n0 O W W':=by
 have hp:=RowAt.new W (Z.sd c o h) 173
 have hb0:Below W.heap.size W (W.alloc (.cells (Z.sd c o h) 173)):=bA
 obtain⟨W1,hW1⟩:∃W1,W.alloc (.cells (Z.sd c o h) 173)=W1:=⟨_,rfl⟩
 have hs1:W1.heap.size=W.heap.size+1:=by rw [←hW1];simp
 rw [hW1]at hp hb0
 have hm:=RowAt.new W1 (M.cell (Z.mv a b 0)).toArray 47
 have hb1:=hb0.alloc om (.cells (M.cell (Z.mv a b 0)).toArray 47)
 replace hp:=hp.alloc (.cells (M.cell (Z.mv a b 0)).toArray 47)
 obtain⟨W2,hW2⟩:∃W2,W1.alloc (.cells (M.cell (Z.mv a b 0)).toArray 47)=W2:=⟨_,rfl⟩
 have hs2:W2.heap.size=W.heap.size+2:=by rw [←hW2];simp;omega
 rw [hW2]at hp hm hb1
 rw [hs1]at hm
 replace hW2:W1.alloc (.cells #[.int .i8 (a:Int),.int .i8 (b:Int),.int .u8 0,.int .u8 0,.bool false] 47)=W2:=hW2
 replace hm:RowAt W2 (W.heap.size+1) 47 #[.int .i8 (a:Int),.int .i8 (b:Int),.int .u8 0,.int .u8 0,.bool false]:=hm
 obtain⟨v0,v1⟩:=zp hc (i:=1+a) om (zk ha)
 have hsq:=(hp.cell (1+a)).trans (Z.sd_pos c o h (1+a) om)
 rw [zk ha]at hsq
 have h78:=(hp.cell 78).trans (Z.sd_pos c o h 78 dc)
 rw [show pk 78= .u8 from rfl,ht]at h78
 have m0:=hm.cell 0
 have m1:=hm.cell 1
 have m2:=hm.cell 2
 have m3:=hm.cell 3
 have m4:=hm.cell 4
 simp only [List.getElem?_toArray,List.getElem?_cons_zero,List.getElem?_cons_succ]at m0 m1 m2 m3 m4
 obtain⟨x,hx⟩:∃x,c (1+a)=x:=⟨_,rfl⟩
 rw [hx]at hsq v0 v1 hone
 obtain⟨k,hk⟩:∃k,P.kind x=k:=⟨_,rfl⟩
 obtain⟨r,hr⟩:∃r,Z.rank t b=r:=⟨_,rfl⟩
 rw [hk,hr]at hone
 have HK:Hid (∀w,cR 122 #[.int .u8 x] w (.int .u8 k) fun w'=>w=w'):=hid (fun w=>by rw [←hk];exact zaF x w v0 v1)
 have HR:Hid (∀w,cR 338 #[.int .u8 (t:Int),.int .i64 (b:Int)] w (.int .i64 (r:Int)) fun w'=>w=w'):=hid (fun w=>by rw [←hr];exact zcZ t b w hb)
 have HJ:=hid (hJ1 O O pre W W2 hJ hb1 (fun q hq=> .inl hq))
 have HY:=hid (hY O W2 HJ)
 have HM:=hid hm
 have HB:=hid hb1
 clear hp hm hb0 hb1 hJ hJ1 hY hk hr hx
 have hwb:wrap64 (b:Int)=(b:Int):=IntWalk.wrap64_in _ ⟨by omega,by omega⟩
 refine callsIn_of_wp func275 rfl trivial ?_ rfl
 simp only [ntmps275,List.size_toArray,List.length_cons,List.length_nil,Nat.reduceAdd,Nat.reduceSub,Array.replicate_succ,Array.replicate_zero,List.push_toArray,List.append_toArray,List.nil_append,List.cons_append]
 change(Code.wpIn _ _ _ _ _ {tmps:= #[.agg (Z.sd c o h),.agg #[.int .i8 (a:Int),.int .i8 (b:Int),.int .u8 0,.int .u8 0,.bool false],.func (.yield l) #[] #[],_,_,_,_,_,_,_,_,_,_,_,_,_,_,_,_,_,_,_,_,_,_,_,_,_,_,_,_,_,_,_,_,_,_,_,_,_,_,_,_,_,_,_],defers:=_} _)
 obtain⟨fn,tmps,assign,body,hy,hR⟩:=HY.out
 change(Instr.yield l #[.agg #[.int .i8 (a:Int),.int .i8 (b:Int),.int .u8 0,.int .u8 0,.bool false]]).run _ _=_ at hy
 by_cases hk1:k=1
 ·have hr7:r≠7:=fun e=>hone ⟨hk1,e⟩
  have d1:(k !=1)=false:=by simp;omega
  have d7:((r:Int) !=7)=true:=by simp;omega
  clear hk1 hr7 hone
  gi_wp2_with (first
   |(refine⟨trivial,fun h=>by simp [Fence.wide]at h,?_⟩;gi_at_call 122;refine(callsIn_wide.2 (HK _)).mono ?_;rintro e w' ⟨rfl,rfl⟩)
   |(refine⟨trivial,fun h=>by simp [Fence.wide]at h,?_⟩;gi_at_call 338;refine(callsIn_wide.2 (HR _)).mono ?_;rintro e w' ⟨rfl,rfl⟩))
  refine⟨fun h=>by simp [Fence.wide]at h,hR.mono ?_⟩
  rintro e W3 ⟨rfl,hJ3,hk3⟩
  have HF:=hid (show J O (pre++[Z.mv a b 0]) W3∧KO n0 O W W3 from⟨hJ3,KO.trans ⟨HB.mono hn0,fun q hq=>HB.block q (hO q hq)⟩ hk3⟩)
  clear hJ3 hk3
  gi_wp2
  go_ret
  exact⟨rfl,HF⟩
 ·have d0:(k==1)=false:=by simp;omega
  have d1:(k !=1)=true:=by simp;omega
  have d2:decide (k=1)=false:=by simp;omega
  clear hone
  gi_wp2_with (first
   |(refine⟨trivial,fun h=>by simp [Fence.wide]at h,?_⟩;gi_at_call 122;refine(callsIn_wide.2 (HK _)).mono ?_;rintro e w' ⟨rfl,rfl⟩)
   |(refine⟨trivial,fun h=>by simp [Fence.wide]at h,?_⟩;gi_at_call 338;refine(callsIn_wide.2 (HR _)).mono ?_;rintro e w' ⟨rfl,rfl⟩))
  refine⟨trivial,?_⟩
  gi_wp2_with fail
  refine⟨fun h=>by simp [Fence.wide]at h,hR.mono ?_⟩
  rintro e W3 ⟨rfl,hJ3,hk3⟩
  have HF:=hid (show J O (pre++[Z.mv a b 0]) W3∧KO n0 O W W3 from⟨hJ3,KO.trans ⟨HB.mono hn0,fun q hq=>HB.block q (hO q hq)⟩ hk3⟩)
  clear hJ3 hk3
  gi_wp2
  go_ret
  exact⟨rfl,HF⟩
theorem zgs(n l:Nat)(n0:Nat)(c:Nat→Int)(o h:BitVec 64)(t a b:Nat)(hc:PosOk c)(ha:a<64)(hb:b<64)(ht:c 78=(t:Int))(J:(Nat→Prop)→List Mv→World→Prop)(O:Nat→Prop)(pre:List Mv)(W:World)
  (hJ1:Owns1 J) (hJ2:Owns2 J) (hJ:J O pre W) (hn0:n0≤W.heap.size) (hO:∀q,O q→q<W.heap.size) (hk:P.kind (c (1+a))=1) (hr:Z.rank t b=7)
  (hY:∀O' i x W1,J O' (pre++((V.promos (c 0).toNat).take i).map (Z.mv a b)) W1→(V.promos (c 0).toNat)[i]? =some x→YieldAt Fence.wide (n-1) prog l (Z.enc (Z.mv a b x)) W1 fun e W'=>e= .returned (.bool true)∧J O' (pre++((V.promos (c 0).toNat).take (i+1)).map (Z.mv a b)) W'∧KO n0 O' W1 W'):
  CallsIn Fence.wide n prog 275 #[.agg (Z.sd c o h),.agg (M.cell (Z.mv a b 0)).toArray,.func (.yield l) #[] #[]] W fun e W'=>e= .returned (.bool true)∧J O (pre++(V.promos (c 0).toNat).map (Z.mv a b)) W'∧KO n0 O W W':=by
 have hp:=RowAt.new W (Z.sd c o h) 173
 have hb0:Below W.heap.size W (W.alloc (.cells (Z.sd c o h) 173)):=bA
 obtain⟨W1,hW1⟩:∃W1,W.alloc (.cells (Z.sd c o h) 173)=W1:=⟨_,rfl⟩
 have hs1:W1.heap.size=W.heap.size+1:=by rw [←hW1];simp
 rw [hW1]at hp hb0
 have hm:=RowAt.new W1 (M.cell (Z.mv a b 0)).toArray 47
 have hb1:=hb0.alloc om (.cells (M.cell (Z.mv a b 0)).toArray 47)
 replace hp:=hp.alloc (.cells (M.cell (Z.mv a b 0)).toArray 47)
 obtain⟨W2,hW2⟩:∃W2,W1.alloc (.cells (M.cell (Z.mv a b 0)).toArray 47)=W2:=⟨_,rfl⟩
 have hs2:W2.heap.size=W.heap.size+2:=by rw [←hW2];simp;omega
 rw [hW2]at hp hm hb1
 rw [hs1]at hm
 replace hW2:W1.alloc (.cells #[.int .i8 (a:Int),.int .i8 (b:Int),.int .u8 0,.int .u8 0,.bool false] 47)=W2:=hW2
 replace hm:RowAt W2 (W.heap.size+1) 47 #[.int .i8 (a:Int),.int .i8 (b:Int),.int .u8 0,.int .u8 0,.bool false]:=hm
 obtain⟨v0,v1⟩:=zp hc (i:=1+a) om (zk ha)
 have hsq:=(hp.cell (1+a)).trans (Z.sd_pos c o h (1+a) om)
 rw [zk ha]at hsq
 have h78:=(hp.cell 78).trans (Z.sd_pos c o h 78 dc)
 rw [show pk 78= .u8 from rfl,ht]at h78
 have m0:=hm.cell 0
 have m1:=hm.cell 1
 have m2:=hm.cell 2
 have m3:=hm.cell 3
 have m4:=hm.cell 4
 simp only [List.getElem?_toArray,List.getElem?_cons_zero,List.getElem?_cons_succ]at m0 m1 m2 m3 m4
 obtain⟨x,hx⟩:∃x,c (1+a)=x:=⟨_,rfl⟩
 rw [hx]at hsq v0 v1 hk
 have HK:Hid (∀w,cR 122 #[.int .u8 x] w (.int .u8 1) fun w'=>w=w'):=hid (fun w=>by rw [←hk];exact zaF x w v0 v1)
 have HR:Hid (∀w,cR 338 #[.int .u8 (t:Int),.int .i64 (b:Int)] w (.int .i64 7) fun w'=>w=w'):=hid (fun w=>by have:=zcZ t b w hb;rw [hr]at this;exact this)
 have HJ:=hid hJ
 have HJ1:=hid hJ1
 have HJ2:=hid hJ2
 have HY:=hid hY
 have HM:=hid hm
 have HB:=hid hb1
 have h0c:=(hp.cell 0).trans (Z.sd_pos c o h 0 dc)
 obtain⟨u0,_⟩:=zp hc (i:=0) dc rfl
 obtain⟨v,hv⟩:∃v:Nat,c 0=(v:Int):=⟨(c 0).toNat,by omega⟩
 rw [show pk 0= .u8 from rfl,hv]at h0c
 clear hp hm hb0 hb1 hJ hJ1 hJ2 hk hr hx hY
 have hwb:wrap64 (b:Int)=(b:Int):=IntWalk.wrap64_in _ ⟨by omega,by omega⟩
 obtain⟨L,hL⟩:∃L,V.promos (c 0).toNat=L:=⟨_,rfl⟩
 have HPr:Hid (∀w,Calls prog 339 #[.int .u8 (v:Int)] w fun e w'=>∃x,e= .returned x∧w'.ownsRow w.heap.size 5 1 x L.length (V.u8s L)∧Below w.heap.size w w'):=hid (fun w=>by rw [←hL,hv,Int.toNat_natCast];exact zdI v w)
 have HL6:Hid (L.length≤6):=hid (by
  rw [←hL]
  have:=V.last_bd (c 0).toNat
  unfold V.promos
  simp
  omega)
 rw [hL]at HY⊢
 refine callsIn_of_wp func275 rfl trivial ?_ rfl
 simp only [ntmps275,List.size_toArray,List.length_cons,List.length_nil,Nat.reduceAdd,Nat.reduceSub,Array.replicate_succ,Array.replicate_zero,List.push_toArray,List.append_toArray,List.nil_append,List.cons_append]
 change(Code.wpIn _ _ _ _ _ {tmps:= #[.agg (Z.sd c o h),.agg #[.int .i8 (a:Int),.int .i8 (b:Int),.int .u8 0,.int .u8 0,.bool false],.func (.yield l) #[] #[],_,_,_,_,_,_,_,_,_,_,_,_,_,_,_,_,_,_,_,_,_,_,_,_,_,_,_,_,_,_,_,_,_,_,_,_,_,_,_,_,_,_,_],defers:=_} _)
 clear hL hv hc ht u0
 gi_wp2_with (first
  |(refine⟨trivial,fun h=>by simp [Fence.wide]at h,?_⟩;gi_at_call 122;refine(callsIn_wide.2 (HK _)).mono ?_;rintro e w' ⟨rfl,rfl⟩)
  |(refine⟨trivial,fun h=>by simp [Fence.wide]at h,?_⟩;gi_at_call 338;refine(callsIn_wide.2 (HR _)).mono ?_;rintro e w' ⟨rfl,rfl⟩)
  |(refine⟨trivial,fun h=>by simp [Fence.wide]at h,?_⟩;gi_at_call 339;refine(callsIn_wide.2 (HPr _)).mono ?_;rintro e w3 ⟨x3,rfl,hown3,hb3⟩;obtain⟨ao,cap,rfl,hcap,hcm,hao⟩:=zD hown3))
 have hbW3:Below W.heap.size W w3:=za HB hb3
 have hm3:=HM.below hb3
 have hs3:W.heap.size+2≤w3.heap.size:=by have:=hb3.size;omega
 obtain⟨O2,hO2⟩:∃O2:Nat→Prop,O2=fun q=>O q∨(W.heap.size≤q∧q<w3.heap.size):=⟨_,rfl⟩
 have hj3:J O2 pre w3:=HJ1 O O2 pre W w3 HJ hbW3 (fun q hq=>by rw [hO2]at hq;exact hq)
 have H3:=hid (And.intro hj3 (And.intro hm3 (And.intro hown3 (show KO n0 O W w3 from⟨hbW3.mono hn0,fun q hq=>hbW3.block q (hO q hq)⟩))))
 have HO2:=hid hO2
 clear hbW3 hm3 hj3 hown3 hb3 hO2 hao m0 m1 m2 m3 m4 hsq h78 h0c
 gi_loopw [8,35] (fun _ i wr=>∃m p:Nat,m≤L.length∧i= .int .i64 (m:Int)∧J O2 (pre++(L.take m).map (Z.mv a b)) wr∧RowAt wr (W.heap.size+1) 47 #[.int .i8 (a:Int),.int .i8 (b:Int),.int .u8 (p:Int),.int .u8 0,.bool false]∧wr.ownsRow W2.heap.size 5 1 (.slice ao L.length cap) L.length (V.u8s L)∧KO n0 O W wr∧w3.heap.size≤wr.heap.size)
  (fun _ i _=>L.length-(intOf i).toNat)
 case atStart=>exact⟨0,0,Nat.zero_le _,rfl,by rw [List.take_zero,List.map_nil,List.append_nil];exact H3.1,H3.2.1,H3.2.2.1,H3.2.2.2,Nat.le_refl _⟩
 case round=>
  obtain⟨m,p,hm,rfl,hj,hrow,hk,hko,hsz⟩:=hrel
  by_cases hlt:m<L.length
  ·obtain⟨u,hu⟩:∃u,L[m]? =some u:=⟨L[m],List.getElem?_eq_getElem hlt⟩
   have HT:=hid (show L.take (m+1)=L.take m++[u] by rw [List.take_add_one,hu];rfl)
   have hnm:=RowAt.not_own hrow hk dc
   obtain⟨ao2,cap2,e2,hcap2,hcm2,hao2⟩:=zD hk
   cases e2
   obtain⟨kb,rfl,hkb1,hkb2,hcell⟩:=hao2 om
   have hc1:=hcell m (.int .u8 (u:Int)) (by unfold V.u8s;rw [List.getElem?_map,hu];rfl)
   have hc2:=hrow.cell 2
   have hf2:=hrow.frozen 2
   simp only [List.getElem?_toArray,List.getElem?_cons_zero,List.getElem?_cons_succ]at hc2
   obtain⟨W5,hW5⟩:∃W5,wr.setCell ⟨W.heap.size+1,2,none⟩ (.int .u8 (u:Int))=W5:=⟨_,rfl⟩
   have hput:Put (W.heap.size+1) wr W5:=by rw [←hW5];exact zN _ _ _ _
   have hrow5:RowAt W5 (W.heap.size+1) 47 #[.int .i8 (a:Int),.int .i8 (b:Int),.int .u8 (u:Int),.int .u8 0,.bool false]:=by rw [←hW5];exact hrow.setCell 2 _
   have n0':=hrow5.cell 0
   have n1:=hrow5.cell 1
   have n2:=hrow5.cell 2
   have n3:=hrow5.cell 3
   have n4:=hrow5.cell 4
   simp only [List.getElem?_toArray,List.getElem?_cons_zero,List.getElem?_cons_succ]at n0' n1 n2 n3 n4
   have HO2m:=hid<|show O2 (W.heap.size+1) by rw [HO2.out];exact .inr ⟨by omega,by omega⟩
   have hj5:=HJ2 O2 _ wr W5 (W.heap.size+1) hj HO2m hput
   have hk5:=hput.owns hk hnm
   have hkk:wr.heap[kb]?≠none:=fun e=>by rw [Array.getElem?_eq_getElem hkb2]at e;cases e
   have hko5:KO n0 O W W5:=⟨hput.below hko.1 om,fun q hq=>(hput.block q (by have:=hO q hq;omega)).trans (hko.2 q hq)⟩
   have hyy:=HY O2 m u W5 hj5 hu
   obtain⟨fn,tmps,assign,body,hy,hR⟩:=hyy
   change(Instr.yield l #[.agg #[.int .i8 (a:Int),.int .i8 (b:Int),.int .u8 (u:Int),.int .u8 0,.bool false]]).run _ _=_ at hy
   have H5:=hid (And.intro hrow5 (And.intro hk5 (And.intro hko5 hput)))
   have HKB:=hid (show W.heap.size≤kb by omega)
   have HLT:=hid hlt
   clear hrow5 hk5 hko5 hput hj hrow hk hko hj5 hu hcell hao2 hkk hnm hkb1 hcap2 hcm2 hcap hcm hs1 hs2 hW2 hW1 hm hn0 hO hs3
   gi_wp2
   refine⟨fun h=>by simp [Fence.wide]at h,hR.mono ?_⟩
   rintro e W6 ⟨rfl,hJ6,hk6⟩
   have hOk:O2 kb:=by
    obtain⟨_,_,e3,_,_,h3⟩:=zD H3.2.2.1
    cases e3
    obtain⟨kb',e4,_,h4,_⟩:=h3 (by have:=HLT.out;omega)
    cases e4
    rw [HO2.out]
    exact .inr ⟨by have:=HKB.out;omega,h4⟩
   have HF:=hid (show J O2 (pre++(L.take (m+1)).map (Z.mv a b)) W6∧RowAt W6 (W.heap.size+1) 47 #[.int .i8 (a:Int),.int .i8 (b:Int),.int .u8 (u:Int),.int .u8 0,.bool false]∧W6.ownsRow W2.heap.size 5 1 (.slice (some ⟨kb,0,none⟩) L.length cap) L.length (V.u8s L)∧KO n0 O W W6∧w3.heap.size≤W6.heap.size from
    ⟨hJ6,⟨(hk6.2 _ HO2m).trans H5.1.heap⟩,zbE H5.2.1 (fun g hg=>by cases hg;exact hk6.2 _ hOk),H5.2.2.1.trans ⟨hk6.1,fun q hq=>hk6.2 q (by rw [HO2.out];exact .inl hq)⟩,by have:=hk6.1.size;have:=H5.2.2.2.size;omega⟩)
   clear hJ6 hk6
   gi_wp2
   have HS:=zhe m L.length HLT (Nat.le_trans HL6 dc)
   have HN:=HLT.out
   go_roundw
   case rel=>exact⟨m+1,u,HN,HS.1,HF.1,HF.2.1,HF.2.2.1,HF.2.2.2.1,HF.2.2.2.2⟩
   case measure=>exact HS.2
  ·obtain rfl:m=L.length:=by omega
   have HF:=hid (show J O (pre++L.map (Z.mv a b)) wr∧KO n0 O W wr from⟨by
    rw [List.take_length]at hj
    exact HJ1 O2 O _ wr wr hj (Below.refl _ _) (fun q hq=> .inl (by rw [HO2.out];exact .inl hq)),hko⟩)
   clear hj hrow hk hko hsz hm hlt
   gi_wp2
   go_ret
   exact⟨rfl,HF⟩
theorem zfS{m m':Nat}{P:Program}{l:Nat}{args:Array Value}{W:World}{R:Ending→World→Prop}(h:YieldAt Fence.wide m P l args W R):YieldAt Fence.wide m' P l args W R:=
 let⟨fn,tmps,assign,body,e,hR⟩:=h
 ⟨fn,tmps,assign,body,e,hR.1,fun c cs _=>hR.2 c cs (room_wide _)⟩
theorem zbc{P:Program}{n:Nat}{ops:Array Oper}{rest:List Oper}{o:Oper}{a:Act}{w:World}{Q:Exit→Act→World→Prop}(hgd:o.guard=none)(ty:TypeId)(x:Operand)(ho:o.op= .load ty x){d:TypeDesc}(hu:P.underlying ty=some d)(hd:(match d with| .struct _| .array _ _=>true|_=>false)=true)
  (h:∃(g:Nat) (T:TypeId) (cs:Array Value),a.eval x= .pointer (some ⟨g,0,none⟩)∧RowAt w g T cs∧(P.info? ty).map (·.size)=some cs.size∧wpListIn Fence.wide n P ops Q rest (a.put o.dst (.agg cs)) w):wpListIn Fence.wide n P ops Q (o::rest) a w:=by
 obtain⟨g,T,cs,hx,hp,hi,h⟩:=h
 refine wpListIn_plain hgd fun K hK=> ?_
 refine⟨fun _ _=>trivial,?_⟩
 have e:Oper.semAt Fence.wide.round a.eval o=execOp a.eval o:=rfl
 rw [e]
 unfold execOp
 simp only [ho,hx,Instr.loadAt,Instr.sureAddr,Sem.run_bind,Sem.run_pure,Result.andThen_ok,run_loadVar_row w g T ty cs (0,0) d hp.heap hu hd hi]
 exact hK _ _ h
theorem zba{α:Type}(L:List α)(n:Nat)(u:α)(h:L[n]? =some u):L.take (n+1)=L.take n++[u]:=by
 rw [List.take_add_one,h]
 rfl
theorem ziM(n l:Nat)(n0:Nat)(c:Nat→Int)(o h:BitVec 64)(t a b:Nat)(hc:PosOk c)(ha:a<64)(hb:b<64)(ht:c 78=(t:Int))(J:(Nat→Prop)→List Mv→World→Prop)(O:Nat→Prop)(pre:List Mv)(W:World)
  (hJ1:Owns1 J) (hJ2:Owns2 J) (hJ:J O pre W) (hn0:n0≤W.heap.size) (hO:∀q,O q→q<W.heap.size) (hlen:pre.length+6≤30000)
  (hY:∀O' q x W1,J O' q W1→q.length≤30000→YieldAt Fence.wide (n-1) prog l (Z.enc x) W1 fun e W'=>e= .returned (.bool true)∧J O' (q++[x]) W'∧KO n0 O' W1 W'):
  CallsIn Fence.wide n prog 275 #[.agg (Z.sd c o h),.agg (M.cell (Z.mv a b 0)).toArray,.func (.yield l) #[] #[]] W fun e W'=>e= .returned (.bool true)∧J O (pre++Z.eachL c t a b) W'∧KO n0 O W W':=by
 by_cases hk:P.kind (c (1+a))=1∧Z.rank t b=7
 ·rw [show Z.eachL c t a b=(V.promos (c 0).toNat).map (Z.mv a b) by unfold Z.eachL;rw [if_pos hk]]
  have hl6:(V.promos (c 0).toNat).length≤6:=by
   have:=V.last_bd (c 0).toNat
   unfold V.promos
   simp
   omega
  refine zgs n l n0 c o h t a b hc ha hb ht J O pre W hJ1 hJ2 hJ hn0 hO hk.1 hk.2 ?_
  intro O' i x W1 hj hx
  have:=hY O' _ (Z.mv a b x) W1 hj (by simp;omega)
  rwa [List.append_assoc,show [Z.mv a b x]=[x].map (Z.mv a b)from rfl,←List.map_append,←zba _ i x hx]at this
 ·rw [Z.one_of c t a b hk]
  exact zhw n l n0 c o h t a b hc ha hb ht J O pre W hJ1 hJ hn0 hO hk (fun O' W1 hj=>hY O' pre _ W1 hj om)
namespace Z
def toL(c:Nat→Int)(t a:Nat)(l:List Nat):List Mv:=l.flatMap fun b=>eachL c t a b
def allR(c:Nat→Int)(o h:BitVec 64)(t:Nat)(l:List Nat):List Mv:=l.flatMap fun a=>toL c t a (B.list (dest c o h a))
theorem zgk(c:Nat→Int)(t a b:Nat):(eachL c t a b).length≤5:=by
 unfold eachL
 split
 ·have:=V.last_bd (c 0).toNat
  unfold V.promos
  simp
  omega
 ·simp
theorem toL_len(c:Nat→Int)(t a:Nat):∀l:List Nat,(toL c t a l).length≤5*l.length
 |[]=>by simp [toL]
 |b::l=>by
  have:=toL_len c t a l
  have h5:=zgk c t a b
  unfold toL at*
  rw [List.flatMap_cons,List.length_append,List.length_cons]
  omega
theorem allR_len(c:Nat→Int)(o h:BitVec 64)(t:Nat):∀l:List Nat,(allR c o h t l).length≤320*l.length
 |[]=>by simp [allR]
 |a::l=>by
  have:=allR_len c o h t l
  have h5:=toL_len c t a (B.list (dest c o h a))
  have:=B.list_len (dest c o h a)
  unfold allR at*
  rw [List.flatMap_cons,List.length_append,List.length_cons]
  omega
theorem toL_snoc(c:Nat→Int)(t a:Nat)(l:List Nat)(b:Nat):toL c t a (l++[b])=toL c t a l++eachL c t a b:=by unfold toL;rw [List.flatMap_append];simp
theorem allR_snoc(c:Nat→Int)(o h:BitVec 64)(t:Nat)(l:List Nat)(a:Nat):allR c o h t (l++[a])=allR c o h t l++toL c t a (B.list (dest c o h a)):=by unfold allR;rw [List.flatMap_append];simp
end Z
theorem zb6(b:BitVec 64)(i a:Nat)(h:(B.list b)[i]? =some a):a<64:=by
 have:=List.mem_of_getElem? h
 unfold B.list at this
 exact List.mem_range.1 ((List.mem_filter.1 this).1)
theorem ints_at(L:List Nat)(n u:Nat)(h:L[n]? =some u):(B.ints L)[n]? =some (.int .i64 (u:Int)):=by
 unfold B.ints
 rw [List.getElem?_map,h]
 rfl
theorem KO.sub{n0:Nat}{O O':Nat→Prop}{W W':World}(h:KO n0 O W W')(hs:∀q,O' q→O q):KO n0 O' W W':=⟨h.1,fun q hq=>h.2 q (hs q hq)⟩
theorem KO.of_below{n0:Nat}{O:Nat→Prop}{W W':World}(h:Below W.heap.size W W')(hn:n0≤W.heap.size)(hO:∀q,O q→q<W.heap.size):KO n0 O W W':=⟨h.mono hn,fun q hq=>h.block q (hO q hq)⟩
theorem zh3(k:Nat)(h:k<64):IntKind.i8.wrap (k:Int)=(k:Int):=by unfold IntKind.wrap;simp [IntKind.bits,IntKind.signed];omega
theorem zdx(n l n0 Bx:Nat)(c:Nat→Int)(o h:BitVec 64)(t:Nat)(hc:PosOk c)(ht:c 78=(t:Int))(ht1:t≤1)(J:(Nat→Prop)→List Mv→World→Prop)(O0:Nat→Prop)(W:World)
  (hJ1:Owns1 J) (hJ2:Owns2 J) (h0:J O0 [] W) (hn0:n0≤W.heap.size) (hO0:∀q,O0 q→q<W.heap.size) (hBx:O0 Bx) (hB:RowAt W Bx 173 (Z.sd c o h)) (hT:∀W',Below n0 W W'→Tb W')
  (hY:∀O' q x W1,J O' q W1→q.length≤30000→YieldAt Fence.wide (n-1) prog l (Z.enc x) W1 fun e W'=>e= .returned (.bool true)∧J O' (q++[x]) W'∧KO n0 O' W1 W'):
  CallsIn Fence.wide n prog 273 #[.func (.yield l) #[] #[],.pointer (some ⟨Bx,0,none⟩)] W fun e W'=>(∃v,e= .returned v)∧∃O xs,xs=Z.allR c o h t (B.list o)∧J O xs W':=by
 have hown:=(hB.cell 88).trans (Z.sd_own c o h)
 have hL64:=B.list_len o
 have hLm:=zb6 o
 have HBL:Hid (∀w,Tb w→Calls prog 129 #[.int .u64 (U o)] w fun e w'=>∃v,e= .returned v∧w'.ownsRow w.heap.size 3 1 v (B.list o).length (B.ints (B.list o))∧Below w.heap.size w w'):=hid (fun w hw=>zbF o w hw)
 obtain⟨LA,hLA⟩:∃LA,B.list o=LA:=⟨_,rfl⟩
 rw [hLA]at hL64 hLm HBL⊢
 have HJ1:=hid hJ1
 have HJ2:=hid hJ2
 have H0:=hid h0
 have HT:=hid hT
 have HY:=hid hY
 have HB:=hid hB
 have HO0:=hid hO0
 have HX:=hid (And.intro hBx hn0)
 have HC:=hid (And.intro hc ht)
 have HLm:=hid hLm
 clear hJ1 hJ2 h0 hT hY hB hO0 hc ht hLA hBx hn0 hLm
 refine callsIn_of_wp func273 rfl trivial ?_ rfl
 simp only [ntmps273,List.size_toArray,List.length_cons,List.length_nil,Nat.reduceAdd,Nat.reduceSub,Array.replicate_succ,Array.replicate_zero,List.push_toArray,List.append_toArray,List.nil_append,List.cons_append]
 gi_wp2_with (first
  |(refine⟨trivial,fun h=>by simp [Fence.wide]at h,?_⟩;gi_at_call 129;refine(callsIn_wide.2 (HBL _ (HT _ (Below.refl _ _)))).mono ?_;rintro e w1 ⟨x1,rfl,hown1,hb1⟩;obtain⟨ao,cap,rfl,hcap,hcm,hao⟩:=zD hown1)
  |(gi_at_call 129;refine(callsIn_wide.2 (HBL _ (HT _ (Below.refl _ _)))).mono ?_;rintro e w1 ⟨x1,rfl,hown1,hb1⟩;obtain⟨ao,cap,rfl,hcap,hcm,hao⟩:=zD hown1))
 have hs1:=hb1.size
 obtain⟨O1,hO1⟩:∃O1:Nat→Prop,O1=fun q=>O0 q∨(W.heap.size≤q∧q<w1.heap.size):=⟨_,rfl⟩
 have hj1:J O1 [] w1:=HJ1 O0 O1 [] W w1 H0 hb1 (fun q hq=>by rw [hO1]at hq;exact hq)
 have hO1l:∀q,O1 q→q<w1.heap.size:=fun q hq=>by
  rw [hO1]at hq
  rcases hq with hq|hq
  ·have:=HO0 q hq;omega
  ·exact hq.2
 have hO1x:O1 Bx:=by rw [hO1];exact .inl HX.1
 have hO1b:∀g,(Value.slice ao LA.length cap).ownBlock=some g→O1 g:=fun g hg=>by
  rcases hown1.2 with⟨e,_⟩|⟨g',cap',cur,e,hb',hh,_⟩
  ·rw [e]at hg;cases hg
  ·rw [e]at hg
   cases hg
   rw [hO1]
   exact .inr ⟨hb',(Array.getElem?_eq_some_iff.1 hh).1⟩
 have H1:=hid (And.intro hj1 (And.intro (HB.below hb1) hown1))
 have HO1:=hid (And.intro hO1l (And.intro hO1x hO1b))
 have HBW:=hid (hb1.mono HX.2)
 clear hj1 hown1 hb1 hO1l hO1x hO1b hO1 hao hown
 gi_loopw [12] (fun i wr=>∃k:Nat,k≤LA.length∧i= .int .i64 (k:Int)∧J O1 (Z.allR c o h t (LA.take k)) wr∧KO n0 O1 w1 wr) (fun i _=>LA.length-(intOf i).toNat)
 case atStart=>exact⟨0,Nat.zero_le _,rfl,by rw [List.take_zero];exact H1.1,KO.refl _ _ _⟩
 case round=>
  obtain⟨k,hk,rfl,hj,hko⟩:=hrel
  by_cases hlt:k<LA.length
  ·obtain⟨a,ha⟩:∃a,LA[k]? =some a:=⟨LA[k],List.getElem?_eq_getElem hlt⟩
   have ha64:=HLm k a ha
   have hown2:wr.ownsRow W.heap.size 3 1 (.slice ao LA.length cap) LA.length (B.ints LA):=zbE H1.2.2 (fun g hg=>hko.2 g (HO1.2.2 g hg))
   obtain⟨ao2,cap2,e2,hcap2,hcm2,hao2⟩:=zD hown2
   cases e2
   obtain⟨kb,rfl,hkb1,hkb2,hcell⟩:=hao2 om
   have hc1:=hcell k _ (ints_at LA k a ha)
   have hBr:RowAt wr Bx 173 (Z.sd c o h):=⟨(hko.2 Bx HO1.2.1).trans H1.2.1.heap⟩
   have hTr:Tb wr:=HT wr (HBW.trans hko.1)
   have HTo:=hid (zi2 c o h a wr HC.1 hTr ha64 (by rw [HC.out.2];omega))
   have hLB64:=B.list_len (Z.dest c o h a)
   have HBm:=hid (zb6 (Z.dest c o h a))
   have HBL2:Hid (∀w,Tb w→Calls prog 129 #[.int .u64 (U (Z.dest c o h a))] w fun e w'=>∃v,e= .returned v∧w'.ownsRow w.heap.size 3 1 v (B.list (Z.dest c o h a)).length (B.ints (B.list (Z.dest c o h a)))∧Below w.heap.size w w'):=hid (fun w hw=>zbF _ w hw)
   have hsn:=Z.allR_snoc c o h t (LA.take k) a
   rw [←zba LA k a ha]at hsn
   have hpl:(Z.allR c o h t (LA.take k)).length≤20480:=by
    have:=Z.allR_len c o h t (LA.take k)
    rw [List.length_take]at this
    omega
   obtain⟨PA,hPA⟩:∃PA,Z.allR c o h t (LA.take k)=PA:=⟨_,rfl⟩
   rw [hPA]at hj hsn hpl
   obtain⟨LB,hLB⟩:∃LB,B.list (Z.dest c o h a)=LB:=⟨_,rfl⟩
   rw [hLB]at HBL2 hLB64 HBm hsn
   have HSN:=hid hsn
   have HJr:=hid (And.intro hj (And.intro hko hBr))
   have HTr:=hid hTr
   have HH:=hid (And.intro hk hlt)
   clear hj hko hBr hTr hsn hPA hLB hown2 hao2 hcell ha hk
   gi_wp2_with (first
    |((with_reducible refine zbc rfl 173 _ rfl underlying173 rfl ?_);refine⟨Bx,173,Z.sd c o h,rfl,HJr.2.2,Z.info _ _ _,?_⟩)
    |(refine⟨trivial,fun h=>by simp [Fence.wide]at h,?_⟩;gi_at_call 274;refine(callsIn_wide.2 HTo).mono ?_;rintro e w2 ⟨rfl,hb2⟩)
    |(gi_at_call 274;refine(callsIn_wide.2 HTo).mono ?_;rintro e w2 ⟨rfl,hb2⟩)
    |(refine⟨trivial,fun h=>by simp [Fence.wide]at h,?_⟩;gi_at_call 129;refine(callsIn_wide.2 (HBL2 _ (zi HTr hb2))).mono ?_;rintro e w3 ⟨x3,rfl,hown3,hb3⟩;obtain⟨bo,bcap,rfl,hbcap,hbcm,hbo⟩:=zD hown3)
    |(gi_at_call 129;refine(callsIn_wide.2 (HBL2 _ (zi HTr hb2))).mono ?_;rintro e w3 ⟨x3,rfl,hown3,hb3⟩;obtain⟨bo,bcap,rfl,hbcap,hbcm,hbo⟩:=zD hown3))
   have hs2:=hb2.size
   have hs3:=hb3.size
   have hb3':=za hb2 hb3
   obtain⟨O2,hO2⟩:∃O2:Nat→Prop,O2=fun q=>O1 q∨(wr.heap.size≤q∧q<w3.heap.size):=⟨_,rfl⟩
   have hj3:J O2 PA w3:=HJ1 O1 O2 PA wr w3 HJr.1 hb3' (fun q hq=>by rw [hO2]at hq;exact hq)
   have hw1r:=HJr.2.1.1.size
   have hO2l:∀q,O2 q→q<w3.heap.size:=fun q hq=>by
    rw [hO2]at hq
    rcases hq with hq|hq
    ·have:=HO1.1 q hq;omega
    ·exact hq.2
   have hO2s:∀q,O1 q→O2 q:=fun q hq=>by rw [hO2];exact .inl hq
   have hO2b:∀g,(Value.slice bo LB.length bcap).ownBlock=some g→O2 g:=fun g hg=>by
    rcases hown3.2 with⟨e,_⟩|⟨g',cap',cur,e,hb',hh,_⟩
    ·rw [e]at hg;cases hg
    ·rw [e]at hg
     cases hg
     rw [hO2]
     exact .inr ⟨Nat.le_trans hs2 hb',(Array.getElem?_eq_some_iff.1 hh).1⟩
   have hko3:KO n0 O1 w1 w3:=HJr.2.1.trans (KO.of_below hb3' (by have:=HX.2;omega) (fun q hq=>by have:=HO1.1 q hq;omega))
   have H3:=hid (And.intro hj3 (And.intro hown3 (And.intro hko3 (HJr.2.2.below hb3'))))
   have HO2:=hid (And.intro hO2l (And.intro hO2s hO2b))
   have HSZ:=hid (show n0≤w3.heap.size by have:=HX.2;omega)
   clear hj3 hown3 hb2 hb3 hb3' hO2l hO2s hO2b hO2 hbo hko3 hw1r
   try rw [show decide ((k:Int)<(LA.length:Int))=true by simp;omega]
   obtain⟨v0,hv0⟩:∃v0,v0=wr:=⟨_,rfl⟩
   subst hv0
   gi_loopw [21] (fun i wr=>∃j:Nat,j≤LB.length∧i= .int .i64 (j:Int)∧J O2 (PA++Z.toL c t a (LB.take j)) wr∧KO n0 O2 w3 wr) (fun i _=>LB.length-(intOf i).toNat)
   case atStart=>exact⟨0,Nat.zero_le _,rfl,by rw [List.take_zero,show Z.toL c t a []=[]from rfl,List.append_nil];exact H3.1,KO.refl _ _ _⟩
   case round=>
    obtain⟨j,hj,rfl,hJs,hks⟩:=hrel
    by_cases hlj:j<LB.length
    ·obtain⟨b,hbb⟩:∃b,LB[j]? =some b:=⟨LB[j],List.getElem?_eq_getElem hlj⟩
     have hb64:=HBm j b hbb
     have hown4:wr.ownsRow w2.heap.size 3 1 (.slice bo LB.length bcap) LB.length (B.ints LB):=zbE H3.2.1 (fun g hg=>hks.2 g (HO2.2.2 g hg))
     obtain⟨bo2,bcap2,e2,_,_,hbo2⟩:=zD hown4
     cases e2
     obtain⟨lb,rfl,_,hlb2,hcell2⟩:=hbo2 om
     have hc2:=hcell2 j _ (ints_at LB j b hbb)
     have hBs:RowAt wr Bx 173 (Z.sd c o h):=⟨(hks.2 Bx (HO2.2.1 Bx HO1.2.1)).trans H3.2.2.2.heap⟩
     have hsn2:=Z.toL_snoc c t a (LB.take j) b
     rw [←zba LB j b hbb]at hsn2
     have hpl2:(PA++Z.toL c t a (LB.take j)).length+6≤30000:=by
      have:=Z.toL_len c t a (LB.take j)
      rw [List.length_take]at this
      rw [List.length_append]
      omega
     have hss:=hks.1.size
     obtain⟨W4,hW4,hm4,hb4,hs4⟩:∃W4,wr.alloc (.cells #[.int .i8 (a:Int),.int .i8 (b:Int),.int .u8 0,.int .u8 0,.bool false] 47)=W4∧RowAt W4 wr.heap.size 47 #[.int .i8 (a:Int),.int .i8 (b:Int),.int .u8 0,.int .u8 0,.bool false]∧Below wr.heap.size wr W4∧W4.heap.size=wr.heap.size+1:=
      ⟨_,rfl,RowAt.new _ _ _,(Below.refl _ _).alloc (Nat.le_refl _) _,by simp⟩
     have hJ4:J O2 (PA++Z.toL c t a (LB.take j)) W4:=HJ1 O2 O2 _ wr W4 hJs hb4 (fun q hq=> .inl hq)
     have HE:=hid (ziM 5 l n0 c o h t a b HC.1 ha64 hb64 HC.2 J O2 (PA++Z.toL c t a (LB.take j)) W4 HJ1 HJ2 hJ4 (by have:=HSZ.out;omega) (fun q hq=>by have:=HO2.1 q hq;omega) hpl2 (fun O' q x W1 h1 h2=>zfS (HY O' q x W1 h1 h2)))
     have HK4:=hid (show KO n0 O2 w3 W4 from hks.trans (KO.of_below hb4 (by have:=HSZ.out;omega) (fun q hq=>by have:=HO2.1 q hq;omega)))
     have HW4:=hid hW4
     have m0:=hm4.cell 0
     have m1:=hm4.cell 1
     have m2:=hm4.cell 2
     have m3:=hm4.cell 3
     have m4:=hm4.cell 4
     simp only [List.getElem?_toArray,List.getElem?_cons_zero,List.getElem?_cons_succ]at m0 m1 m2 m3 m4
     rw [←hW4]at m0 m1 m2 m3 m4
     have HB4:=hid (hBs.below hb4)
     have HSN2:=hid hsn2
     have HLJ:=hid hlj
     have w8a:=zh3 a ha64
     have w8b:=zh3 b hb64
     clear hJs hks hown4 hbo2 hcell2 hbb hsn2 hpl2 hss hW4 hm4 hb4 hs4 hJ4 hj hBs
     gi_wp2_with (first
      |((with_reducible refine zbc rfl 173 _ rfl underlying173 rfl ?_);refine⟨Bx,173,Z.sd c o h,rfl,(by rw [HW4.out];exact HB4.out),Z.info _ _ _,?_⟩)
      |(refine⟨trivial,fun h=>by simp [Fence.wide]at h,?_⟩;gi_at_call 275;rw [HW4.out];refine(callsIn_wide.2 (callsIn_wide.1 HE)).mono ?_;rintro e w5 ⟨rfl,hJ5,hk5⟩))
     have HS:=zdr j LB.length HLJ.out
     exact⟨⟨j+1,HLJ,HS.1,by rw [HSN2.out,←List.append_assoc];exact hJ5,HK4.trans hk5⟩,HS.2⟩
    ·obtain rfl:j=LB.length:=by omega
     rw [List.take_length]at hJs
     have HF:=hid (show J O1 (Z.allR c o h t (LA.take (k+1))) wr∧KO n0 O1 w1 wr from⟨by rw [HSN.out];exact HJ1 O2 O1 _ wr wr hJs (Below.refl _ _) (fun q hq=> .inl (HO2.2.1 q hq)),H3.2.2.1.trans (hks.sub HO2.2.1)⟩)
     clear hJs hks hj hlj
     gi_wp2
     have HS:=zdr k LA.length HH.2
     have HN:=HH.2
     go_roundw
     case rel=>exact⟨k+1,HN,HS.1,HF.1,HF.2⟩
     case measure=>exact HS.2
  ·obtain rfl:k=LA.length:=by omega
   have HF:=hid (show J O1 (Z.allR c o h t LA) wr by rw [List.take_length]at hj;exact hj)
   clear hj hko hk hlt
   gi_wp2
   go_end0
   exact⟨⟨_,rfl⟩,O1,_,rfl,HF⟩
end Go.Proofs.YtbakeajgolhkgaaGreatDoor
