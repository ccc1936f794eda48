import Derived.Test.YtbakeajgolhkgaaGreatDoorYaa
set_option maxRecDepth 100000
set_option maxHeartbeats 8000000
open Go.Lib (hid)
namespace Go.Proofs.YtbakeajgolhkgaaGreatDoor
open Go.Proofs.Tryz
section
open Go.RowKit Go.Sort
namespace A
def seg(cur:Array Value):Nat→List Value→Array Value
 |_,[]=>cur
 |o,v::r=>seg (cur.setIfInBounds o v) (o+1) r
theorem zg2:∀(vs:List Value) (o:Nat) (cur:Array Value) (k:Nat),(seg cur o vs)[k]? =if(o≤k∧k<o+vs.length)∧k<cur.size then vs[k-o]? else cur[k]?
 |[],o,cur,k=>by unfold seg;rw [if_neg (by simp;omega)]
 |v::r,o,cur,k=>by
  unfold seg
  rw [zg2 r (o+1) _ k,Array.size_setIfInBounds,Array.getElem?_setIfInBounds]
  by_cases h1:o+1≤k∧k<o+1+r.length
  ·by_cases h2:k<cur.size
   ·rw [if_pos ⟨h1,h2⟩,if_pos ⟨⟨by omega,by simp;omega⟩,h2⟩,show k-o=(k-(o+1))+1 by omega,List.getElem?_cons_succ]
   ·rw [if_neg (fun h=>h2 h.2),if_neg (show¬((o≤k∧k<o+(v::r).length)∧k<cur.size)from fun h=>h2 h.2),if_neg (show¬o=k by omega)]
  ·rw [if_neg (fun h=>h1 h.1)]
   by_cases h3:o=k
   ·subst h3
    rw [if_pos rfl]
    by_cases h2:o<cur.size
    ·rw [if_pos h2,if_pos ⟨⟨Nat.le_refl _,by simp⟩,h2⟩,Nat.sub_self];rfl
    ·rw [if_neg h2,if_neg (fun h=>h2 h.2),Array.getElem?_eq_none om]
   ·rw [if_neg h3,if_neg (show¬((o≤k∧k<o+(v::r).length)∧k<cur.size)from fun h=>h1 ⟨by omega,by have:=h.1.2;simp at this;omega⟩)]
theorem put_cells(g:Nat):∀(vs:List Value) (o:Nat) (w:World),Put g w (w.setCells g o vs)
 |[],_,_=>Put.refl _ _
 |v::r,o,w=>(zN w g o v).trans (put_cells g r (o+1) _)
theorem row_cells(g:Nat)(T:TypeId):∀(vs:List Value) (o:Nat) (w:World) (cur:Array Value),RowAt w g T cur→RowAt (w.setCells g o vs) g T (seg cur o vs)
 |[],_,_,_,h=>h
 |v::r,o,w,cur,h=>by
  unfold World.setCells seg
  exact row_cells g T r (o+1) _ _ (h.setCell o v)
def mvv(q c:Nat→Int)(m:Mv)(t:Int)(i:Nat):Value:=
 if i<88 then .int (pk i) (q i)else if i<176 then .int (pk (i-88)) (c (i-88))else if i<181 then(M.cell m).getD (i-176) undef else .int .i64 t
def mvr(q c:Nat→Int)(m:Mv)(t:Int):Array Value:=((List.range 182).map (mvv q c m t)).toArray
section
variable (q c:Nat→Int) (m:Mv) (t:Int)
theorem mvr_size:(mvr q c m t).size=182:=by simp [mvr]
theorem za0(i:Nat)(h:i<182):(mvr q c m t)[i]? =some (mvv q c m t i):=by simp [mvr,h]
theorem mvr_q(i:Nat)(h:i<88):(mvr q c m t)[i]? =some (.int (pk i) (q i)):=by rw [za0 _ _ _ _ _ om];unfold mvv;rw [if_pos h]
theorem mvr_c(i:Nat)(h:i<88):(mvr q c m t)[88+i]? =some (.int (pk i) (c i)):=by
 rw [za0 _ _ _ _ _ om];unfold mvv;rw [if_neg om,if_pos om,Nat.add_sub_cancel_left]
theorem mvr_t:(mvr q c m t)[181]? =some (.int .i64 t):=by rw [za0 _ _ _ _ _ om];rfl
theorem mvr_m(i:Nat)(v:Value)(h:(M.cell m)[i]? =some v):(mvr q c m t)[176+i]? =some v:=by
 have hi:i<5:=(List.getElem?_eq_some_iff.1 h).1
 rw [za0 _ _ _ _ _ om];unfold mvv
 rw [if_neg om,if_neg om,if_pos om,Nat.add_sub_cancel_left,List.getD_eq_getElem?_getD,h];rfl
theorem mvr_upd(i:Nat)(n:Int)(h:i<88):(mvr q c m t).setIfInBounds i (.int (pk i) n)=mvr (upd q i n) c m t:=by
 apply Array.ext_getElem?
 intro k
 rw [Array.getElem?_setIfInBounds]
 by_cases hk:k<182
 ·rw [za0 _ _ _ _ _ hk,za0 _ _ _ _ _ hk]
  by_cases e:i=k
  ·subst e
   rw [if_pos rfl,if_pos (by rw [mvr_size];exact hk)]
   unfold mvv;rw [if_pos h];simp [upd]
  ·rw [if_neg e]
   unfold mvv
   by_cases h1:k<88
   ·rw [if_pos h1,if_pos h1,zT _ _ _ _ (fun e'=>e e'.symm)]
   ·rw [if_neg h1,if_neg h1]
 ·rw [if_neg om,Array.getElem?_eq_none (by rw [mvr_size];omega),Array.getElem?_eq_none (by rw [mvr_size];omega)]
theorem ziT(q':Nat→Int):seg (mvr q c m t) 0 (posL q')=mvr q' c m t:=by
 apply Array.ext_getElem?
 intro k
 rw [zg2]
 have hl:(posL q').length=88:=by simp [posL]
 by_cases hk:k<182
 ·rw [za0 _ _ _ _ _ hk,za0 _ _ _ _ _ hk,mvr_size,hl]
  unfold mvv
  by_cases h1:k<88
  ·rw [if_pos ⟨⟨by omega,by omega⟩,hk⟩,if_pos h1];simp [posL,h1]
  ·rw [if_neg (fun h=>h1 (by have:=h.1.2;omega)),if_neg h1,if_neg h1]
 ·rw [if_neg (by rw [mvr_size];omega),Array.getElem?_eq_none (by rw [mvr_size];omega),Array.getElem?_eq_none (by rw [mvr_size];omega)]
end
structure MvAt (w:World) (b:Nat) (q c:Nat→Int) (m:Mv) (t:Int):Prop where
 row:RowAt w b 109 (mvr q c m t)
section
variable {w w':World} {b:Nat} {q c:Nat→Int} {m:Mv} {t:Int}
theorem MvAt.lt(h:MvAt w b q c m t):b<w.heap.size:=h.row.lt
theorem MvAt.atq(h:MvAt w b q c m t)(i:Nat)(hi:i<88)(k:IntKind)(hk:pk i=k):w.cell? ⟨b,i,none⟩=some (.int k (q i)):=by rw [h.row.cell,mvr_q _ _ _ _ _ hi,hk]
theorem MvAt.atc(h:MvAt w b q c m t)(i:Nat)(hi:i<88)(k:IntKind)(hk:pk i=k):w.cell? ⟨b,88+i,none⟩=some (.int k (c i)):=by rw [h.row.cell,mvr_c _ _ _ _ _ hi,hk]
theorem MvAt.atm(h:MvAt w b q c m t)(i:Nat)(v:Value)(hv:(M.cell m)[i]? =some v):w.cell? ⟨b,176+i,none⟩=some v:=by rw [h.row.cell,mvr_m _ _ _ _ _ _ hv]
theorem MvAt.att(h:MvAt w b q c m t):w.cell? ⟨b,181,none⟩=some (.int .i64 t):=by rw [h.row.cell,mvr_t]
theorem MvAt.frozen(h:MvAt w b q c m t)(i:Nat):w.frozen? ⟨b,i,none⟩=false:=h.row.frozen i
theorem MvAt.rq(h:MvAt w b q c m t):w.rangeAt b 0 (posL q):=fun j v hj=>by
 have hl:j<88:=by have:=(List.getElem?_eq_some_iff.1 hj).1;simpa [posL]using this
 rw [Nat.zero_add,h.atq j hl _ rfl,←hj];simp [posL,hl]
theorem MvAt.rc(h:MvAt w b q c m t):w.rangeAt b 88 (posL c):=fun j v hj=>by
 have hl:j<88:=by have:=(List.getElem?_eq_some_iff.1 hj).1;simpa [posL]using this
 rw [h.atc j hl _ rfl,←hj];simp [posL,hl]
theorem MvAt.rm(h:MvAt w b q c m t):w.rangeAt b 176 (M.cell m):=fun j v hj=>h.atm j v hj
theorem MvAt.below(h:MvAt w b q c m t)(hb:Below w.heap.size w w'):MvAt w' b q c m t:=⟨h.row.below hb⟩
theorem MvAt.alloc(h:MvAt w b q c m t)(o:Obj):MvAt (w.alloc o) b q c m t:=⟨h.row.alloc o⟩
theorem MvAt.put{g:Nat}(h:MvAt w b q c m t)(hP:Put g w w')(hne:b≠g):MvAt w' b q c m t:=⟨hP.row h.row hne⟩
theorem MvAt.set(h:MvAt w b q c m t)(i:Nat)(hi:i<88)(k:IntKind)(hk:pk i=k)(n:Int):MvAt (w.setCell ⟨b,i,none⟩ (.int k n)) b (upd q i n) c m t:=by
 subst hk
 exact⟨by rw [←mvr_upd _ _ _ _ _ _ hi];exact h.row.setCell i _⟩
theorem MvAt.setP(h:MvAt w b q c m t)(q':Nat→Int):MvAt (w.setCells b 0 (posL q')) b q' c m t:=
 ⟨by rw [←ziT q c m t q'];exact row_cells b _ _ _ _ _ h.row⟩
end
theorem mvr_built(q c:Nat→Int)(f g p d:Int)(ca:Bool)(t:Int):prog.built 109 [(0,.agg (posC q)),(1,.agg (posC c)),(2,.agg #[.int .i8 f,.int .i8 g,.int .u8 p,.int .u8 d,.bool ca]),(3,.int .i64 t)]=some (mvr q c (f,g,p,d,ca) t):=by kernel_rfl
end A
section
variable {ops:Array Oper} {rest:List Oper} {o:Oper} {a:Act} {w:World} {Q:Exit→Act→World→Prop} {K:Act→World→Prop}
theorem zM(ty:TypeId)(x y:Operand)(ho:o.op= .store ty x y){b i:Nat}{q c:Nat→Int}{m:Mv}{t n:Int}{k:IntKind}
  (hx:a.eval x= .pointer (some ⟨b,i,none⟩)) (hy:a.eval y= .int k n) (hi:i<88) (hk:pk i=k) (hs:(prog.info? ty).map (·.size)=some 1) (hp:A.MvAt w b q c m t)
  (h:∀W':World,Put b w W'→A.MvAt W' b (upd q i n) c m t→K (a.put o.dst undef) W'):o.wp prog a w K Q:=by
 unfold Oper.wp execOp
 simp only [ho,hx,hy,Instr.storeAt,Instr.sureAddr,Sem.run_bind,Sem.run_pure,Result.andThen_ok,zas i ty (.int k n) rfl hp.row (by rw [A.mvr_size];omega) hs]
 exact h _ (zN w b i _) (hp.set i hi k hk n)
theorem zco(x y:Operand)(ho:o.op= .store 31 x y){b:Nat}{q q' c:Nat→Int}{m:Mv}{t:Int}
  (hx:a.eval x= .pointer (some ⟨b,0,none⟩)) (hy:a.eval y= .agg (posC q')) (hp:A.MvAt w b q c m t)
  (h:∀W':World,Put b w W'→A.MvAt W' b q' c m t→K (a.put o.dst undef) W'):o.wp prog a w K Q:=by
 refine wp_store_mid 31 x y ho b 0 (posC q') hx hy (fun j hj=> ?_) (zr q') (zaG q') (h _ (A.put_cells b _ _ _) (hp.setP q'))
 have hj':j<88:=by rwa [zC]at hj
 exact⟨by rw [Nat.zero_add,hp.atq j hj' _ rfl];rfl,hp.frozen _⟩
theorem zg(hgd:o.guard=none)(ty:TypeId)(x y:Operand)(ho:o.op= .store ty x y)
  (h:∃(b i:Nat) (q c:Nat→Int) (m:Mv) (t n:Int) (k:IntKind),a.eval x= .pointer (some ⟨b,i,none⟩)∧a.eval y= .int k n∧i<88∧pk i=k∧(prog.info? ty).map (·.size)=some 1∧A.MvAt w b q c m t∧
   ∀W':World,Put b w W'→A.MvAt W' b (upd q i n) c m t→wpList prog ops Q rest (a.put o.dst undef) W'):wpList prog ops Q (o::rest) a w:=by
 obtain⟨b,i,q,c,m,t,n,k,hx,hy,hi,hk,hs,hp,h⟩:=h
 exact wpList_plain hgd fun _ hK=>zM ty x y ho hx hy hi hk hs hp fun W' h1 h2=>hK _ _ (h W' h1 h2)
theorem za5(hgd:o.guard=none)(x y:Operand)(ho:o.op= .store 31 x y)
  (h:∃(b:Nat) (q q' c:Nat→Int) (m:Mv) (t:Int),a.eval x= .pointer (some ⟨b,0,none⟩)∧a.eval y= .agg (posC q')∧A.MvAt w b q c m t∧
   ∀W':World,Put b w W'→A.MvAt W' b q' c m t→wpList prog ops Q rest (a.put o.dst undef) W'):wpList prog ops Q (o::rest) a w:=by
 obtain⟨b,q,q',c,m,t,hx,hy,hp,h⟩:=h
 exact wpList_plain hgd fun _ hK=>zco x y ho hx hy hp fun W' h1 h2=>hK _ _ (h W' h1 h2)
end
end
section
open Go.RowKit Go.Sort
attribute [local go_sem] Oper.semAt_some
namespace A
def pk6(color kind:Int):Nat:=66+6*color.toNat+kind.toNat
def fits(color kind:Int):Bool:=decide (color≤1)&&(decide (1≤kind)&&decide (kind≤5))
def add(c:Nat→Int)(color kind:Int):Nat→Int:=if fits color kind=true∧c (pk6 color kind)<255 then upd c (pk6 color kind) (c (pk6 color kind)+1)else c
def take(c:Nat→Int)(color kind:Int):Nat→Int:=if fits color kind=true∧c (pk6 color kind)≠0 then upd c (pk6 color kind) (c (pk6 color kind)-1)else c
def takeOk(c:Nat→Int)(color kind:Int):Bool:=fits color kind&&(c (pk6 color kind) !=0)
theorem fits_cases{color kind:Int}(h0:0≤color)(h:fits color kind=true):(color=0∨color=1)∧(kind=1∨kind=2∨kind=3∨kind=4∨kind=5):=by
 unfold fits at h
 simp at h
 omega
theorem results_row{P:Program}{fn:Func}{p u:Tmp}{ty:TypeId}(h:fn.results= #[.cell p ty,.tmp u])(tmps:Array Value)(w:World)(g:Nat)(t:TypeId)(cs:Array Value)(fr:Nat×Nat)(d:TypeDesc)
  (hp:tmps.getD p undef= .pointer (some ⟨g,0,none⟩)) (hg:w.heap[g]? =some (.cells cs t fr))
  (hu:P.underlying ty=some d) (hd:(match d with| .struct _| .array _ _=>true|_=>false)=true) (hi:(P.info? ty).map (·.size)=some cs.size):
  (results fn tmps).run P w= .ok (.tuple #[.agg cs,tmps.getD u undef]) w:=by
 rw [results_cell_tmp h,hp]
 simp [asAddr,run_loadVar_row w g t ty cs fr d hg hu hd hi,Result.andThen]
theorem pos_u{c:Nat→Int}(h:PosOk c){i:Nat}(hi:i<88)(hk:pk i= .u8):0≤c i∧c i≤255:=by
 have:=h i hi
 rw [hk]at this
 exact bounds_u8 this
theorem zero_pos:zeroCells31.size=88:=by kernel_rfl
end A
theorem size_u8A:(prog.info? 5).map (·.size)=some 1:=by kernel_rfl
theorem zgI(color kind:Int)(w:World):
  cR 200 #[.int .u8 color,.int .u8 kind] w (.bool (A.fits color kind)) fun w'=>w=w':=by
 by_cases h1:color≤1
 ·have d1:decide (color≤1)=true:=decide_eq_true h1
  by_cases h2:1≤kind
  ·have d2:decide (1≤kind)=true:=decide_eq_true h2
   have E:=hid (show A.fits color kind=decide (kind≤5) by unfold A.fits;rw [d1,d2];rfl)
   go_enter func200,ntmps200
   go_wp2
   go_ret
   exact⟨zy E.symm,rfl⟩
  ·have d2:decide (1≤kind)=false:=decide_eq_false h2
   have E:=hid (show A.fits color kind=false by unfold A.fits;rw [d1,d2];rfl)
   go_enter func200,ntmps200
   go_wp2
   go_ret
   exact⟨zy E.symm,rfl⟩
 ·have d1:decide (color≤1)=false:=decide_eq_false h1
  have E:=hid (show A.fits color kind=false by unfold A.fits;rw [d1];rfl)
  go_enter func200,ntmps200
  go_wp2
  go_ret
  exact⟨zy E.symm,rfl⟩
theorem zbb(color kind:Int)(w:World){b:Bool}(h:A.fits color kind=b):
 cR 200 #[.int .u8 color,.int .u8 kind] w (.bool b) fun w'=>w=w':=h▸zgI color kind w
theorem ziF(c:Nat→Int)(color kind:Int)(w:World)(hfit:A.fits color kind=false):
  cB 128 #[.agg (posC c),.int .u8 color,.int .u8 kind] w (.agg (posC (A.add c color kind))):=by
 have hb0:Below w.heap.size w (w.alloc (.cells (posC c) 31)):=bA
 have hp:=PosAt.new w c
 have hz0:((w.alloc (.cells (posC c) 31)).alloc (.cells zeroCells31 31)).heap[w.heap.size+1]? =some (.cells zeroCells31 31 (0,0)):=by
  have:=heap_alloc_new (w.alloc (.cells (posC c) 31)) (.cells zeroCells31 31)
  rwa [World.size_alloc]at this
 have hpW:=hp.alloc (.cells zeroCells31 31)
 have hbW:=hb0.alloc sp (.cells zeroCells31 31)
 have hsz:((w.alloc (.cells (posC c) 31)).alloc (.cells zeroCells31 31)).heap.size=w.heap.size+2:=by simp
 have E:=hid (show(.agg (posC (A.add c color kind)):Value)= .agg (posC c) by unfold A.add;rw [if_neg (fun h=>by rw [hfit]at h;cases h.1)])
 go_enter func128,ntmps128
 go_wp2_with (first
  |(go_at_call 200;refine(zbb _ _ _ hfit).mono ?_;rintro e w' ⟨rfl,rfl⟩)
  |((with_reducible refine ze rfl _ rfl ?_);refine⟨_,_,rfl,hpW,?_⟩)
  |((with_reducible refine zn rfl _ _ rfl ?_);refine⟨w.heap.size+1,_,rfl,rfl,⟨_,hz0,A.zero_pos⟩,?_⟩;intro W9 hP9 hq9))
 exact bodyPost_ret (v:= .agg (posC c)) (results_cell_row results128 _ _ (w.heap.size+1) 31 _ (0,0) _ rfl hq9.heap underlying31 rfl (zr _)) rfl ⟨E.symm▸rfl,hP9.below hbW om⟩
theorem zhu(c:Nat→Int)(color kind:Int)(w:World)(hfit:A.fits color kind=false):
  cB 125 #[.agg (posC c),.int .u8 color,.int .u8 kind] w (.tuple #[.agg (posC (A.take c color kind)),.bool (A.takeOk c color kind)]):=by
 have hb0:Below w.heap.size w (w.alloc (.cells (posC c) 31)):=bA
 have hp:=PosAt.new w c
 have hz0:((w.alloc (.cells (posC c) 31)).alloc (.cells zeroCells31 31)).heap[w.heap.size+1]? =some (.cells zeroCells31 31 (0,0)):=by
  have:=heap_alloc_new (w.alloc (.cells (posC c) 31)) (.cells zeroCells31 31)
  rwa [World.size_alloc]at this
 have hpW:=hp.alloc (.cells zeroCells31 31)
 have hbW:=hb0.alloc sp (.cells zeroCells31 31)
 have hsz:((w.alloc (.cells (posC c) 31)).alloc (.cells zeroCells31 31)).heap.size=w.heap.size+2:=by simp
 have E:=hid (show(.tuple #[.agg (posC (A.take c color kind)),.bool (A.takeOk c color kind)]:Value)= .tuple #[.agg (posC c),.bool false] by unfold A.take A.takeOk;rw [if_neg (fun h=>by rw [hfit]at h;cases h.1)];simp [hfit])
 go_enter func125,ntmps125
 go_wp2_with (first
  |(go_at_call 200;refine(zbb _ _ _ hfit).mono ?_;rintro e w' ⟨rfl,rfl⟩)
  |((with_reducible refine ze rfl _ rfl ?_);refine⟨_,_,rfl,hpW,?_⟩)
  |((with_reducible refine zn rfl _ _ rfl ?_);refine⟨w.heap.size+1,_,rfl,rfl,⟨_,hz0,A.zero_pos⟩,?_⟩;intro W9 hP9 hq9))
 exact bodyPost_ret (A.results_row results125 _ _ (w.heap.size+1) _ _ _ _ rfl hq9.heap underlying31 rfl (zr _)) rfl ⟨E.symm▸rfl,hP9.below hbW om⟩
theorem A.pk6_n(t k:Nat):A.pk6 (t:Int) (k:Int)=66+t*6+k:=by
 unfold A.pk6
 rw [Int.toNat_natCast,Int.toNat_natCast]
 omega
theorem ziU(c:Nat→Int)(t k:Nat)(w:World)(hc:PosOk c)(ht:t<2)(hk1:1≤k)(hk5:k≤5):
  cB 128 #[.agg (posC c),.int .u8 (t:Int),.int .u8 (k:Int)] w (.agg (posC (A.add c t k))):=by
 have hb0:Below w.heap.size w (w.alloc (.cells (posC c) 31)):=bA
 have hp:=PosAt.new w c
 have hz0:((w.alloc (.cells (posC c) 31)).alloc (.cells zeroCells31 31)).heap[w.heap.size+1]? =some (.cells zeroCells31 31 (0,0)):=by
  have:=heap_alloc_new (w.alloc (.cells (posC c) 31)) (.cells zeroCells31 31)
  rwa [World.size_alloc]at this
 have hpW:=hp.alloc (.cells zeroCells31 31)
 have hbW:=hb0.alloc sp (.cells zeroCells31 31)
 have hsz:((w.alloc (.cells (posC c) 31)).alloc (.cells zeroCells31 31)).heap.size=w.heap.size+2:=by simp
 have hfit:A.fits (t:Int) (k:Int)=true:=by unfold A.fits;simp;omega
 have hpk:pk (66+t*6+k)= .u8:=by unfold pk;rw [if_neg om,if_neg om,if_pos om]
 have h6:=A.pk6_n t k
 have ht2:(t:Int)<2:=by omega
 have hk6:(k:Int)<6:=by omega
 obtain⟨v0,v1⟩:=A.pos_u hc (i:=66+t*6+k) om hpk
 have hI:=hpW.cell (i:=66+t*6+k) om
 rw [hpk]at hI
 have Hpk:=hid hpk
 have H6:=hid h6
 clear hpk h6
 by_cases hx:c (66+t*6+k)<255
 ·have d1:decide (c (66+t*6+k)<255)=true:=by first|exact decide_eq_true hx|exact decide_eq_false hx
  have E:=hid (show(.agg (posC (A.add c t k)):Value)= .agg (posC (upd c (66+t*6+k) (c (66+t*6+k)+1))) by unfold A.add;rw [H6.out];rw [if_pos ⟨hfit,hx⟩])
  have hw:IntKind.u8.wrap (c (66+t*6+k)+1)=c (66+t*6+k)+1:=by rw [IntKind.wrap_u8];omega
  go_enter func128,ntmps128
  go_wp2_with (go_at_call 200;refine(zbb _ _ _ hfit).mono ?_;rintro e w' ⟨rfl,rfl⟩)
  obtain⟨W,hW⟩:∃W,((w.alloc (.cells (posC c) 31)).alloc (.cells zeroCells31 31))=W:=⟨_,rfl⟩
  rw [hW]at hz0 hpW hbW hsz hI⊢
  clear hW hp hb0
  refine zl (n:=10) kr kr ?_
  simp only [List.take_succ_cons,List.take_zero,List.drop_succ_cons,List.drop_zero]
  repeat(quiet_step (fail))
  refine wpQuiet_nil ?_
  intro W' hb'
  have hz':=(hb'.block (w.heap.size+1) om).trans hz0
  have hp':=hpW.below hb'
  have hB':=hid (za hbW hb')
  clear hz0 hpW hbW hI hb'
  go_wp2_with (first
   |((with_reducible refine zB rfl _ _ _ rfl ?_);refine⟨w.heap.size,66+t*6+k,_,_,_,rfl,rfl,hp',om,Hpk,size_u8A,?_⟩;intro W8 hP8 hq8;have hz8:=(hP8.block (w.heap.size+1) om).trans hz')
   |((with_reducible refine ze rfl _ rfl ?_);refine⟨_,_,rfl,hq8,?_⟩)
   |((with_reducible refine zn rfl _ _ rfl ?_);refine⟨w.heap.size+1,_,rfl,rfl,⟨_,hz8,A.zero_pos⟩,?_⟩;intro W9 hP9 hq9))
  exact bodyPost_ret (v:= .agg (posC (upd c (66+t*6+k) (c (66+t*6+k)+1)))) (results_cell_row results128 _ _ (w.heap.size+1) 31 _ (0,0) _ rfl hq9.heap underlying31 rfl (zr _)) rfl ⟨E.symm▸rfl,hP9.below (hP8.below hB'.out (Nat.le_refl _)) om⟩
 ·have d1:decide (c (66+t*6+k)<255)=false:=by first|exact decide_eq_false hx|(have hx':=Classical.not_not.1 hx;exact decide_eq_true hx')
  have E:=hid (show(.agg (posC (A.add c t k)):Value)= .agg (posC c) by unfold A.add;rw [H6.out];rw [if_neg (fun h=>hx h.2)])
  go_enter func128,ntmps128
  go_wp2_with (first
   |(go_at_call 200;refine(zbb _ _ _ hfit).mono ?_;rintro e w' ⟨rfl,rfl⟩)
   |((with_reducible refine ze rfl _ rfl ?_);refine⟨_,_,rfl,hpW,?_⟩)
   |((with_reducible refine zn rfl _ _ rfl ?_);refine⟨w.heap.size+1,_,rfl,rfl,⟨_,hz0,A.zero_pos⟩,?_⟩;intro W9 hP9 hq9))
  exact bodyPost_ret (v:= .agg (posC c)) (results_cell_row results128 _ _ (w.heap.size+1) 31 _ (0,0) _ rfl hq9.heap underlying31 rfl (zr _)) rfl ⟨E.symm▸rfl,hP9.below hbW om⟩
theorem zhZ(c:Nat→Int)(t k:Nat)(w:World)(hc:PosOk c)(ht:t<2)(hk1:1≤k)(hk5:k≤5):
  cB 125 #[.agg (posC c),.int .u8 (t:Int),.int .u8 (k:Int)] w (.tuple #[.agg (posC (A.take c t k)),.bool (A.takeOk c t k)]):=by
 have hb0:Below w.heap.size w (w.alloc (.cells (posC c) 31)):=bA
 have hp:=PosAt.new w c
 have hz0:((w.alloc (.cells (posC c) 31)).alloc (.cells zeroCells31 31)).heap[w.heap.size+1]? =some (.cells zeroCells31 31 (0,0)):=by
  have:=heap_alloc_new (w.alloc (.cells (posC c) 31)) (.cells zeroCells31 31)
  rwa [World.size_alloc]at this
 have hpW:=hp.alloc (.cells zeroCells31 31)
 have hbW:=hb0.alloc sp (.cells zeroCells31 31)
 have hsz:((w.alloc (.cells (posC c) 31)).alloc (.cells zeroCells31 31)).heap.size=w.heap.size+2:=by simp
 have hfit:A.fits (t:Int) (k:Int)=true:=by unfold A.fits;simp;omega
 have hpk:pk (66+t*6+k)= .u8:=by unfold pk;rw [if_neg om,if_neg om,if_pos om]
 have h6:=A.pk6_n t k
 have ht2:(t:Int)<2:=by omega
 have hk6:(k:Int)<6:=by omega
 obtain⟨v0,v1⟩:=A.pos_u hc (i:=66+t*6+k) om hpk
 have hI:=hpW.cell (i:=66+t*6+k) om
 rw [hpk]at hI
 have Hpk:=hid hpk
 have H6:=hid h6
 clear hpk h6
 by_cases hx:c (66+t*6+k)≠0
 ·have d1:decide (c (66+t*6+k)=0)=false:=by first|exact decide_eq_true hx|exact decide_eq_false hx
  have E:=hid (show(.tuple #[.agg (posC (A.take c t k)),.bool (A.takeOk c t k)]:Value)= .tuple #[.agg (posC (upd c (66+t*6+k) (c (66+t*6+k)-1))),.bool true] by unfold A.take A.takeOk;rw [H6.out];rw [if_pos ⟨hfit,hx⟩];simp [hfit,hx])
  have hw:IntKind.u8.wrap (c (66+t*6+k)-1)=c (66+t*6+k)-1:=by rw [IntKind.wrap_u8];omega
  go_enter func125,ntmps125
  go_wp2_with (go_at_call 200;refine(zbb _ _ _ hfit).mono ?_;rintro e w' ⟨rfl,rfl⟩)
  obtain⟨W,hW⟩:∃W,((w.alloc (.cells (posC c) 31)).alloc (.cells zeroCells31 31))=W:=⟨_,rfl⟩
  rw [hW]at hz0 hpW hbW hsz hI⊢
  clear hW hp hb0
  refine zl (n:=10) kr kr ?_
  simp only [List.take_succ_cons,List.take_zero,List.drop_succ_cons,List.drop_zero]
  repeat(quiet_step (fail))
  refine wpQuiet_nil ?_
  intro W' hb'
  have hz':=(hb'.block (w.heap.size+1) om).trans hz0
  have hp':=hpW.below hb'
  have hB':=hid (za hbW hb')
  clear hz0 hpW hbW hI hb'
  go_wp2_with (first
   |((with_reducible refine zB rfl _ _ _ rfl ?_);refine⟨w.heap.size,66+t*6+k,_,_,_,rfl,rfl,hp',om,Hpk,size_u8A,?_⟩;intro W8 hP8 hq8;have hz8:=(hP8.block (w.heap.size+1) om).trans hz')
   |((with_reducible refine ze rfl _ rfl ?_);refine⟨_,_,rfl,hq8,?_⟩)
   |((with_reducible refine zn rfl _ _ rfl ?_);refine⟨w.heap.size+1,_,rfl,rfl,⟨_,hz8,A.zero_pos⟩,?_⟩;intro W9 hP9 hq9))
  exact bodyPost_ret (A.results_row results125 _ _ (w.heap.size+1) _ _ _ _ rfl hq9.heap underlying31 rfl (zr _)) rfl ⟨E.symm▸rfl,hP9.below (hP8.below hB'.out (Nat.le_refl _)) om⟩
 ·have d1:decide (c (66+t*6+k)=0)=true:=by first|exact decide_eq_false hx|(have hx':=Classical.not_not.1 hx;exact decide_eq_true hx')
  have E:=hid (show(.tuple #[.agg (posC (A.take c t k)),.bool (A.takeOk c t k)]:Value)= .tuple #[.agg (posC c),.bool false] by unfold A.take A.takeOk;rw [H6.out];rw [if_neg (fun h=>hx h.2)];simp [hfit,Classical.not_not.1 hx])
  go_enter func125,ntmps125
  go_wp2_with (first
   |(go_at_call 200;refine(zbb _ _ _ hfit).mono ?_;rintro e w' ⟨rfl,rfl⟩)
   |((with_reducible refine ze rfl _ rfl ?_);refine⟨_,_,rfl,hpW,?_⟩)
   |((with_reducible refine zn rfl _ _ rfl ?_);refine⟨w.heap.size+1,_,rfl,rfl,⟨_,hz0,A.zero_pos⟩,?_⟩;intro W9 hP9 hq9))
  exact bodyPost_ret (A.results_row results125 _ _ (w.heap.size+1) _ _ _ _ rfl hq9.heap underlying31 rfl (zr _)) rfl ⟨E.symm▸rfl,hP9.below hbW om⟩
theorem zc4(c:Nat→Int)(color kind:Int)(w:World)(hc:PosOk c)(h0:0≤color):
  cB 128 #[.agg (posC c),.int .u8 color,.int .u8 kind] w (.agg (posC (A.add c color kind))):=by
 cases hf:A.fits color kind
 ·exact ziF c color kind w hf
 ·obtain⟨h1,h2⟩:=A.fits_cases h0 hf
  obtain⟨t,rfl⟩:∃t:Nat,color=(t:Int):=⟨color.toNat,by omega⟩
  obtain⟨k,rfl⟩:∃k:Nat,kind=(k:Int):=⟨kind.toNat,by omega⟩
  exact ziU c t k w hc om om om
theorem zgO(c:Nat→Int)(color kind:Int)(w:World)(hc:PosOk c)(h0:0≤color):
  cB 125 #[.agg (posC c),.int .u8 color,.int .u8 kind] w (.tuple #[.agg (posC (A.take c color kind)),.bool (A.takeOk c color kind)]):=by
 cases hf:A.fits color kind
 ·exact zhu c color kind w hf
 ·obtain⟨h1,h2⟩:=A.fits_cases h0 hf
  obtain⟨t,rfl⟩:∃t:Nat,color=(t:Int):=⟨color.toNat,by omega⟩
  obtain⟨k,rfl⟩:∃k:Nat,kind=(k:Int):=⟨kind.toNat,by omega⟩
  exact zhZ c t k w hc om om om
end
end Go.Proofs.YtbakeajgolhkgaaGreatDoor
