import Derived.Maps.OwnIn
import Derived.Test.YtbakeajgolhkgaaGreatDoorYan
import Derived.Test.YtbakeajgolhkgaaGreatDoorZl
set_option maxRecDepth 100000
set_option maxHeartbeats 8000000
open Go.Lib (hid)
namespace Go.Proofs.YtbakeajgolhkgaaGreatDoor
open Go.Proofs.Tryz
section
open Go.RowKit
namespace D
def empty(c:Nat→Int)(s:Nat):Bool:=P.kind (c (1+s))==0
def own(c:Nat→Int)(s:Nat)(t:Int):Bool:= !empty c s&&(color (c (1+s))==t)
def up1(t:Nat):Int:=if t=0 then 8 else-8
def pawn(c:Nat→Int)(t a b:Nat):Bool:=
 if hits c a b=true then own c b (1-(t:Int))||(c 83==(b:Int))
 else if(b:Int)=(a:Int)+up1 t then empty c b
 else decide ((b:Int)=(a:Int)+2*up1 t)&&((decide (Z.rank t a=1)||(decide (Z.rank t a=0)&&(decide (c 0=7)&&decide (t=0))))&&(empty c ((a:Int)+up1 t).toNat&&empty c b))
def may(c:Nat→Int)(t a b:Nat):Bool:=
 decide (a≠b)&&(own c a (t:Int)&&(!own c b (t:Int)&&
  (if P.kind (c (1+a))=1 then pawn c t a b
   else if P.kind (c (1+a))=6 then hits c a b&&(decide (c 0≠3)||empty c b)
   else hits c a b)))
end D
theorem zhT(s:Int)(n:Nat)(hn:n<64):bit (B.one s) n=(s==(n:Int)):=by
 by_cases h:0≤s∧s<64
 ·obtain⟨m,rfl⟩:∃m:Nat,s=(m:Int):=⟨s.toNat,by omega⟩
  rw [zaP m n om,Bool.eq_iff_iff]
  simp
  omega
 ·unfold B.one
  rw [if_neg h,zac]
  symm
  simp
  omega
theorem zbN(c:Nat→Int)(t:Int)(hc:BdOk c)(j:Nat)(hj:j<64):bit (S.of c t 0) j=D.own c j t:=by
 obtain⟨x0,x1⟩:=hc j hj
 rw [zeO c t 0 j hj]
 unfold S.ofG D.own D.empty
 have:=isB_kind _ x0 x1
 cases hb:P.isB (c (1+j))
 ·rw [za4 _ hb];simp
 ·rw [hb]at this
  rw [zcQ _ hb]
  simp at this⊢
  simp [this]
theorem zia(c:Nat→Int)(t:Int)(ht:t=0∨t=1)(hc:BdOk c):bOr (S.of c t 0) (S.of c (1-t) 0)=S.all c:=zgq fun j hj=>by
 obtain⟨x0,x1⟩:=hc j hj
 rw [zag,zbN c t hc j hj,zbN c (1-t) hc j hj,zbQ c j hj]
 unfold D.own D.empty
 have hk:=isB_kind _ x0 x1
 cases hb:P.isB (c (1+j))
 ·rw [za4 _ hb];simp
 ·obtain⟨_,_,h3⟩:=zeL _ x0 x1 hb
  rw [zcQ _ hb]at h3
  rw [hb]at hk
  simp at hk⊢
  rcases ht with rfl|rfl<;>rcases h3 with h3|h3<;>simp [h3,hk]
theorem zcp(c:Nat→Int)(hc:BdOk c)(j:Nat)(hj:j<64):D.empty c j= !bit (S.all c) j:=by
 obtain⟨x0,x1⟩:=hc j hj
 rw [zbQ c j hj,←isB_kind _ x0 x1]
 unfold D.empty
 cases h:(P.kind (c (1+j))==0)<;>simp_all
theorem zgj(t a b:Nat)(ht:t≤1)(ha:a<64)(hr:Z.rank t a≠7):(b=Z.one t a)↔(b:Int)=(a:Int)+D.up1 t:=by
 obtain⟨h1,h2⟩:=Z.ahead_one t a ha hr
 unfold Z.ahead at h1
 unfold D.up1
 split at h1<;>split<;>omega
theorem zih(t a b:Nat)(ht:t≤1)(ha:a<64)(hr:Z.rank t a≤1):(b=Z.one t (Z.one t a))↔(b:Int)=(a:Int)+2*D.up1 t:=by
 obtain⟨h1,h2⟩:=Z.ahead_one t a ha om
 obtain⟨h3,h4⟩:=Z.ahead_two t a ha hr
 unfold Z.ahead at h1 h3
 unfold D.up1
 split at h1<;>split at h3<;>split<;>omega
theorem zfp(c:Nat→Int)(a b:Nat)(h1:P.kind (c (1+a))=1)(h:D.hits c a b=true):(b:Int) % 8≠(a:Int) % 8:=by
 intro e
 unfold D.hits at h
 have hz:D.aside a b=0:=by unfold D.aside;rw [show(b:Int) % 8-(a:Int) % 8=0 by omega];rfl
 rw [if_pos h1,hz]at h
 split at h<;>simp at h
theorem zgC(c:Nat→Int)(t a b:Nat)(hc:PosOk c)(ht:c 78=(t:Int))(ht1:t≤1)(ha:a<64)(hb:b<64)(h1:P.kind (c (1+a))=1)(ho:D.own c a (t:Int)=true):
  bit (Z.pawn c (Z.own c) (Z.oth c) t a) b=D.pawn c t a b:=by
 have hbd:=zw hc
 have hcol:D.color (c (1+a))=(t:Int):=by unfold D.own at ho;simp at ho;exact ho.2
 have hall:bOr (Z.own c) (Z.oth c)=S.all c:=by unfold Z.own Z.oth;rw [ht];exact zia c (t:Int) om hbd
 have hhit:bit (R.pawn (c 78) (a:Int)) b=D.hits c a b:=by
  rw [zh2 c a b hbd ha hb,h1,hcol,ht]
  exact zeN 1 (t:Int) (S.all c) a b om ha hb
 have hpo:bit (Z.pout c (Z.oth c) a) b=(D.hits c a b&&(D.own c b (1-(t:Int))||(c 83==(b:Int)))):=by
  unfold Z.pout Z.passing
  rw [zav,zag,hhit,zhT _ b hb]
  congr 2
  unfold Z.oth
  rw [ht]
  exact zbN c _ hbd b hb
 unfold Z.pawn D.pawn
 rw [hall]
 by_cases hr:Z.rank t a=7
 ·rw [if_pos hr,hpo]
  cases hh:D.hits c a b
  ·rw [if_neg sp,if_neg,hr]
   ·simp
   ·unfold Z.rank at hr
    unfold D.up1
    split at hr<;>split<;>omega
  ·simp
 rw [if_neg hr]
 have hone:=zgj t a b ht1 ha hr
 obtain⟨e1,e2⟩:=Z.ahead_one t a ha hr
 have e1':((a:Int)+D.up1 t).toNat=Z.one t a:=by
  have:=(zgj t a (Z.one t a) ht1 ha hr).1 rfl
  omega
 rw [e1']
 have hfile:D.hits c a b=true→b≠Z.one t a∧((b:Int)≠(a:Int)+2*D.up1 t):=fun h=>by
  have:=zfp c a b h1 h
  rw [ne_eq,hone]
  unfold D.up1
  split<;>omega
 have hE1:=zcp c hbd (Z.one t a) e2
 have hEb:=zcp c hbd b hb
 by_cases hbl:bit (S.all c) (Z.one t a)=true
 ·rw [if_pos hbl,hpo]
  cases hh:D.hits c a b
  ·rw [if_neg sp,hE1,hbl]
   split
   ·rename_i h
    rw [hEb,hone.2 h,hbl]
    rfl
   ·simp
  ·simp
 rw [if_neg hbl]
 have hbl':bit (S.all c) (Z.one t a)=false:=by simpa using hbl
 have hfrom:Z.from2 c (Z.rank t a)=(decide (Z.rank t a=1)||(decide (Z.rank t a=0)&&(decide (c 0=7)&&decide (t=0)))):=by
  unfold Z.from2
  rw [ht]
  congr 3
  simp
 by_cases hf:Z.from2 c (Z.rank t a)=true
 ·rw [if_pos hf]
  rw [hfrom]at hf
  have hr1:Z.rank t a≤1:=by simp at hf;omega
  obtain⟨e3,e4⟩:=Z.ahead_two t a ha hr1
  have htwo:=zih t a b ht1 ha hr1
  rw [zag,zag,zaE,hpo,zaP _ b e2,zaP _ b e4,hf,hE1,hbl',hEb]
  cases hh:D.hits c a b
  ·rw [if_neg sp]
   by_cases hb1:b=Z.one t a
   ·rw [if_pos (hone.1 hb1),hb1,hbl']
    simp
   ·rw [if_neg (fun h=>hb1 (hone.2 h))]
    by_cases hb2:b=Z.one t (Z.one t a)
    ·have h12:Z.one t (Z.one t a)≠Z.one t a:=fun e=>hb1 (hb2.trans e)
     have h13:=htwo.1 hb2
     rw [hb2]at h13⊢
     simp [h12,h13]
    ·have:¬(b:Int)=(a:Int)+2*D.up1 t:=fun h=>hb2 (htwo.2 h)
     simp [hb1,hb2,this]
  ·obtain⟨n1,n2⟩:=hfile hh
   have n3:b≠Z.one t (Z.one t a):=fun h=>n2 (htwo.1 h)
   simp [n1,n3]
 ·rw [if_neg hf]
  rw [hfrom]at hf
  have hf':(decide (Z.rank t a=1)||(decide (Z.rank t a=0)&&(decide (c 0=7)&&decide (t=0))))=false:=by simpa using hf
  rw [zag,hpo,zaP _ b e2,hf',hE1,hbl',hEb]
  cases hh:D.hits c a b
  ·rw [if_neg sp]
   by_cases hb1:b=Z.one t a
   ·rw [if_pos (hone.1 hb1),hb1,hbl']
    simp
   ·rw [if_neg (fun h=>hb1 (hone.2 h))]
    simp [hb1]
  ·obtain⟨n1,n2⟩:=hfile hh
   simp [n1]
theorem zhV(c:Nat→Int)(t a b:Nat)(hc:PosOk c)(ht:c 78=(t:Int))(ht1:t≤1)(ha:a<64)(hb:b<64)(ho:D.own c a (t:Int)=true):
  bit (Z.dest c (Z.own c) (Z.oth c) a) b=D.may c t a b:=by
 have hbd:=zw hc
 have hcol:D.color (c (1+a))=(t:Int):=by unfold D.own at ho;simp at ho;exact ho.2
 have hall:bOr (Z.own c) (Z.oth c)=S.all c:=by unfold Z.own Z.oth;rw [ht];exact zia c (t:Int) om hbd
 unfold Z.dest
 rw [zaE,show bit (Z.own c) b=D.own c b (t:Int) by unfold Z.own;rw [ht];exact zbN c _ hbd b hb]
 unfold D.may
 rw [ho,Bool.true_and]
 cases hob:D.own c b (t:Int)
 ·have hab:a≠b:=fun e=>by rw [e,hob]at ho;cases ho
  simp only [hab,decide_true,Bool.not_false,Bool.and_true,Bool.true_and,ne_eq,not_false_eq_true]
  obtain⟨k,hk⟩:∃k:Nat,P.kind (c (1+a))=(k:Int):=by
   obtain⟨x0,x1⟩:=hbd a ha
   cases hB:P.isB (c (1+a))
   ·exact⟨0,za4 _ hB⟩
   ·exact⟨(P.kind (c (1+a))).toNat,by have:=zeL _ x0 x1 hB;omega⟩
  have hK:D.hits c a b=D.hitsK (k:Int) (t:Int) (S.all c) a b:=by rw [zh2 c a b hbd ha hb,hk,hcol]
  have hB:=zeN k (t:Int) (S.all c) a b om ha hb
  unfold Z.base
  rw [hall]
  by_cases h1:k=1
  ·have hk1:P.kind (c (1+a))=1:=by rw [hk,h1];rfl
   rw [if_pos hk1,if_pos hk1,ht,Int.toNat_natCast]
   exact zgC c t a b hc ht ht1 ha hb hk1 ho
  rw [if_neg (show¬P.kind (c (1+a))=1 by omega),if_neg (show¬P.kind (c (1+a))=1 by omega)]
  by_cases h6:k=6
  ·subst h6
   rw [if_neg (show¬P.kind (c (1+a))=2 by omega),if_neg (show¬P.kind (c (1+a))=3 by omega),if_neg (show¬P.kind (c (1+a))=4 by omega),if_neg (show¬P.kind (c (1+a))=5 by omega),if_pos (show P.kind (c (1+a))=6 by omega),if_pos (show P.kind (c (1+a))=6 by omega),hK,←hB]
   have hEb:=zcp c hbd b hb
   by_cases h3:c 0=3
   ·rw [if_pos h3,zaE]
    show(bit (R.king a) b&&_)=(bit (R.king a) b&&_)
    congr 1
    simp only [h3,not_true_eq_false,decide_false,Bool.false_or,hEb]
    rw [←hall,zag,show bit (Z.own c) b=D.own c b (t:Int) by unfold Z.own;rw [ht];exact zbN c _ hbd b hb,hob,Bool.false_or]
   ·rw [if_neg h3]
    simp only [h3,not_false_eq_true,decide_true,Bool.true_or,Bool.and_true]
    rfl
  rw [if_neg (show¬P.kind (c (1+a))=6 by omega),if_neg (show¬P.kind (c (1+a))=6 by omega),hK,←hB]
  by_cases h2:k=2
  ·subst h2;rw [if_pos (show P.kind (c (1+a))=2 by omega)];rfl
  rw [if_neg (show¬P.kind (c (1+a))=2 by omega)]
  by_cases h3:k=3
  ·subst h3;rw [if_pos (show P.kind (c (1+a))=3 by omega)];rfl
  rw [if_neg (show¬P.kind (c (1+a))=3 by omega)]
  by_cases h4:k=4
  ·subst h4;rw [if_pos (show P.kind (c (1+a))=4 by omega)];rfl
  rw [if_neg (show¬P.kind (c (1+a))=4 by omega)]
  by_cases h5:k=5
  ·subst h5;rw [if_pos (show P.kind (c (1+a))=5 by omega)];rfl
  rw [if_neg (show¬P.kind (c (1+a))=5 by omega)]
  congr 1
  unfold K.hits
  split<;>first|omega|rfl
 ·simp
namespace Z
def all(c:Nat→Int)(t:Nat):List Mv:=(B.list (own c)).flatMap fun a=>(B.list (dest c (own c) (oth c) a)).flatMap fun b=>eachL c t a b
end Z
namespace D
def list13(c:Nat→Int)(t:Nat):List Mv:=(List.range 64).flatMap fun a=>(List.range 64).flatMap fun b=>if may c t a b=true then Z.eachL c t a b else []
end D
theorem zaA{α β:Type}(p:α→Bool)(f:α→List β):∀l:List α,(l.filter p).flatMap f=l.flatMap fun x=>if p x=true then f x else []
 |[]=>rfl
 |x::l=>by
  rw [List.flatMap_cons,←zaA p f l]
  cases h:p x
  ·rw [List.filter_cons_of_neg (by simp [h])];simp
  ·rw [List.filter_cons_of_pos h];simp
theorem zaR{α β:Type}{f g:α→List β}:∀{l:List α},(∀x,x∈l→f x=g x)→l.flatMap f=l.flatMap g
 |[],_=>rfl
 |x::l,h=>by rw [List.flatMap_cons,List.flatMap_cons,h x List.mem_cons_self,zaR fun y hy=>h y (List.mem_cons_of_mem _ hy)]
theorem all_eq(c:Nat→Int)(t:Nat)(hc:PosOk c)(ht:c 78=(t:Int))(ht1:t≤1):Z.all c t=D.list13 c t:=by
 unfold Z.all D.list13 B.list
 rw [zaA]
 refine zaR fun a ha=> ?_
 have ha:=List.mem_range.1 ha
 rw [show bit (Z.own c) a=D.own c a (t:Int) by unfold Z.own;rw [ht];exact zbN c _ (zw hc) a ha]
 split
 ·rename_i ho
  rw [zaA]
  refine zaR fun b hb=> ?_
  rw [zhV c t a b hc ht ht1 ha (List.mem_range.1 hb) ho]
 ·rename_i ho
  symm
  rw [List.flatMap_eq_nil_iff]
  intro b _
  rw [if_neg]
  unfold D.may
  simp [ho]
end
section
open Go.RowKit Go.Sort
def Z.End(l:List Mv)(w:World):Ending→World→Prop:=fun e w'=>∃x,e= .returned x∧w'.ownsRow w.heap.size 47 5 x l.length (M.cells l)∧Below w.heap.size w w'
namespace D
def rowB(c:Nat→Int)(t a n:Nat):List Mv:=(List.range n).flatMap fun b=>if may c t a b=true then Z.eachL c t a b else []
def rowA(c:Nat→Int)(t n:Nat):List Mv:=(List.range n).flatMap fun a=>rowB c t a 64
def lst(c:Nat→Int):List Mv:=if Z.ok c=true then list13 c (c 78).toNat else []
theorem list_row(c:Nat→Int)(t:Nat):list13 c t=rowA c t 64:=rfl
theorem zf9(c:Nat→Int)(t a n:Nat):rowB c t a (n+1)=rowB c t a n++(if may c t a n=true then Z.eachL c t a n else []):=by
 unfold rowB
 rw [List.range_succ,List.flatMap_append]
 simp
theorem zgh(c:Nat→Int)(t n:Nat):rowA c t (n+1)=rowA c t n++rowB c t n 64:=by
 unfold rowA
 rw [List.range_succ,List.flatMap_append]
 simp
theorem zhc(c:Nat→Int)(t a b:Nat):(Z.eachL c t a b).length≤5:=by
 unfold Z.eachL
 split
 ·have:=V.last_bd (c 0).toNat
  unfold V.promos
  simp
  omega
 ·simp
theorem zeT(c:Nat→Int)(t a:Nat):∀n,(rowB c t a n).length≤5*n
 |0=>by simp [rowB]
 |n+1=>by
  have:=zeT c t a n
  have h5:=zhc c t a n
  rw [zf9,List.length_append]
  split
  ·omega
  ·simp;omega
theorem rowA_len(c:Nat→Int)(t:Nat):∀n,(rowA c t n).length≤320*n
 |0=>by simp [rowA]
 |n+1=>by
  have:=rowA_len c t n
  have h5:=zeT c t n 64
  rw [zgh,List.length_append]
  omega
end D
theorem owns_ne{w:World}{base base':Nat}{e e':TypeId}{s s':Nat}{v v':Value}{n n':Nat}{xs xs':List Value}(h:w.ownsRow base e s v n xs)(h':w.ownsRow base' e' s' v' n' xs')(hne:e≠e'):∀g,v.ownBlock=some g→v'.ownBlock≠some g:=by
 rintro g hg hg'
 rcases h.2 with⟨rfl,rfl⟩|⟨g1,cap,cur,rfl,_,hh,_⟩
 ·cases hg
 rcases h'.2 with⟨rfl,rfl⟩|⟨g2,cap',cur',rfl,_,hh',_⟩
 ·cases hg'
 cases hg
 cases hg'
 rw [hh]at hh'
 cases hh'
 exact hne rfl
theorem zfv{W:World}{g:Nat}{T:TypeId}{m:Mv}(h:RowAt W g T (M.cell m).toArray):∀(j:Nat) (u:Value),(M.cell m)[j]? =some u→W.cell? ((⟨g,0,none⟩:Addr).add j)=some u:=by
 intro j u hj
 have:=h.cell j
 rw [List.getElem?_toArray,hj]at this
 unfold Addr.add
 split
 ·rename_i h0
  rw [h0]at this
  exact this
 ·simpa using this
theorem zfP(m:Mv):∀u∈M.cell m,u.oneCell'=true:=by
 intro u hu
 simp [M.cell]at hu
 rcases hu with rfl|rfl|rfl|rfl|rfl<;>rfl
theorem info_Mv:(prog.info? 47).map (fun i=>(i.zero,i.size,i.bytes))=some (some (.agg #[.int .i8 0,.int .i8 0,.int .u8 0,.int .u8 0,.bool false]),5,5):=by kernel_rfl
theorem size_Mv:(prog.info? 47).map (·.size)=some 5:=by kernel_rfl
theorem i8_sq(k:Nat)(h:k<64):IntKind.i8.wrap (k:Int)=(k:Int):=by unfold IntKind.wrap;simp [IntKind.bits,IntKind.signed];omega
theorem zbs{w:World}{base b':Nat}{e:TypeId}{size:Nat}{v:Value}{n:Nat}{xs:List Value}(h:w.ownsRow base e size v n xs)(hb:b'≤base):w.ownsRow b' e size v n xs:=by
 refine⟨h.1,?_⟩
 rcases h.2 with h2|⟨g,cap,cur,hv,hb',h3⟩
 ·exact .inl h2
 ·exact .inr ⟨g,cap,cur,hv,Nat.le_trans hb hb',h3⟩
theorem zif{w:World}{base:Nat}{e:TypeId}{size:Nat}{v:Value}{n:Nat}{xs:List Value}(h:w.ownsRow base e size v n xs):∀q,v.ownBlock=some q→q<w.heap.size:=by
 rintro q hq
 rcases h.2 with⟨rfl,rfl⟩|⟨g,cap,cur,rfl,hb,hg,_⟩
 ·cases hq
 ·cases hq
  exact(Array.getElem?_eq_some_iff.1 hg).1
theorem RowAt.newAt(w:World)(cs:Array Value)(T:TypeId)(g:Nat)(h:g=w.heap.size):RowAt (w.alloc (.cells cs T)) g T cs:=h▸RowAt.new w cs T
theorem zdQ{α:Type}(L:List α)(n:Nat)(u:α)(h:L[n]? =some u):L.take (n+1)=L.take n++[u]:=by
 rw [List.take_add_one,h]
 rfl
theorem Z.many(c:Nat→Int)(t a b:Nat)(h:P.kind (c (1+a))=1∧Z.rank t b=7):Z.eachL c t a b=(V.promos (c 0).toNat).map (Z.mv a b):=by unfold Z.eachL;rw [if_pos h]
end
section
open Go.RowKit Go.Sort
attribute [local go_sem] Oper.semAt_some
theorem zfo(c:Nat→Int)(o h:BitVec 64)(w:World):cR 193 #[.agg (Z.sd c o h)] w (.func (.func 273) #[] #[.pointer (some ⟨w.heap.size,0,none⟩)]) fun w'=>w.alloc (.cells (Z.sd c o h) 173)=w':=by
 go_enter func193,ntmps193
 go_wp2
 go_ret
 exact⟨rfl,rfl⟩
def Z.Row(w:World)(Bo:Nat)(O:Nat→Prop)(pre:List Mv)(W:World):Prop:=
 ∃v,Boxed W Bo 39 v∧W.ownsRow Bo 47 5 v pre.length (M.cells pre)∧(∀q,v.ownBlock=some q→¬O q)∧(∀q,O q→Bo≤q∧q<W.heap.size)∧¬O Bo∧Below w.heap.size w W
theorem Z.Row.grow(w:World)(Bo:Nat):Owns1 (Z.Row w Bo):=by
 rintro O O' s W W' ⟨v,hv,hr,hq,hO,hB,hb⟩ hb' ho
 have hlt:=hv.lt
 refine⟨v,(hb'.block _ hv.lt).trans hv,zq hr hb',fun q e hq'=> ?_,fun q hq'=> ?_,fun h=> ?_,za hb hb'⟩
 ·rcases ho q hq' with h|h
  ·exact hq q e h
  ·have:=zif hr q e
   omega
 ·rcases ho q hq' with h|h
  ·have:=hO q h
   have:=hb'.size
   omega
  ·exact⟨by omega,h.2⟩
 ·rcases ho _ h with h|h
  ·exact hB h
  ·omega
theorem Z.Row.put(w:World)(Bo:Nat)(hw:w.heap.size≤Bo):Owns2 (Z.Row w Bo):=by
 rintro O s W W' b ⟨v,hv,hr,hq,hO,hB,hb⟩ hob hP
 exact⟨v,(hP.block _ (fun e=>hB (by rw [e];exact hob))).trans hv,hP.owns hr (fun e=>hq b e hob),hq,fun q h=>by rw [hP.size];exact hO q h,hB,hP.below hb (by have:=hO b hob;omega)⟩
theorem Z.Row.puts(w w0:World)(Bo:Nat)(hw:w.heap.size≤w0.heap.size)(O:Nat→Prop)(s:List Mv):Puts w0.heap.size (Z.Row w Bo O s):=by
 rintro W l o o' ⟨v,hv,hr,hq,hO,hB,hb⟩ hl ho hn
 have ne:∀{B:Nat} {t:TypeId} {x:Value},Boxed W B t x→some B≠some l:=fun hx e=>by cases e;rw [show W.heap[_]? =_ from hx]at ho;cases ho;cases hn
 exact⟨v,hv.kept (grownBy_putObj' W l o') (ne hv),ownsRow_putObj hr o' ho hn,hq,fun q h=>by simpa using hO q h,hB,hb.grown (grownBy_putObj' W l o') hb.size (fun k e=>by cases e;omega)⟩
def Z.slots(c:Nat→Int)(o h:BitVec 64)(w w1:World)(Bo Bm:Nat)(x:Mv):Act:=
 {tmps:= #[.agg (posC c),.pointer (some ⟨w.heap.size,0,none⟩),.slice none 0 0,.pointer (some ⟨w1.heap.size,0,none⟩),.bool true,.pointer (some ⟨Bo,0,none⟩),.pointer (some ⟨Bm,0,none⟩),.tuple #[.agg (Z.sd c o h),.bool true],.agg (posC c),.tuple #[.agg (Z.sd c o h),.bool true],.agg (Z.sd c o h),.bool true,.bool true,.bool false,.agg (Z.sd c o h),.func (.func 273) #[] #[.pointer (some ⟨Bo+1,0,none⟩)],.agg (M.cell x).toArray,undef,undef,undef,undef,undef],defers:=[]}
theorem zhB(c:Nat→Int)(t:Nat)(w:World)(hc:PosOk c)(hT:Tb w)(ht:c 78=(t:Int))(ht1:t≤1)(hok:Z.ok c=true):
  Calls prog 118 #[.agg (posC c)] w (Z.End (Z.allR c (Z.own c) (Z.oth c) t (B.list (Z.own c))) w):=by
 have HOf:Hid (∀w,cB 121 #[.agg (posC c)] w (.tuple #[.agg (Z.sd c (Z.own c) (Z.oth c)),.bool true])):=hid (fun w=>by
  have:=zc3 c w hc
  unfold Z.ofV at this
  rwa [if_pos hok]at this)
 have hL64:=B.list_len (Z.own c)
 obtain⟨o,ho⟩:∃o,Z.own c=o:=⟨_,rfl⟩
 obtain⟨uo,hh⟩:∃uo,Z.oth c=uo:=⟨_,rfl⟩
 rw [ho,hh]at HOf
 rw [ho]at hL64
 rw [ho,hh]
 have hlen:=Z.allR_len c o uo t (B.list o)
 have HL:=hid (show(Z.allR c o uo t (B.list o)).length≤20480 by omega)
 have HT:=hid hT
 have HC:=hid (And.intro hc ht)
 have hp:=PosAt.new w c
 have hb0:Below w.heap.size w (w.alloc (.cells (posC c) 31)):=bA
 obtain⟨W,hW⟩:∃W,w.alloc (.cells (posC c) 31)=W:=⟨_,rfl⟩
 rw [hW]at hp hb0
 have hs0:W.heap.size=w.heap.size+1:=by rw [←hW];simp
 have HP:=hid hp
 have HB:=hid hb0
 clear hc ht hok ho hh hlen hL64 hT hp hb0
 refine(callsIn_wide (n:=6)).1 ?_
 refine callsIn_of_wp_marks func118 rfl trivial ?_ rfl
 refine wpIn_wide.2 ?_
 simp only [ntmps118,List.size_toArray,List.length_cons,List.length_nil,Nat.reduceAdd,Nat.reduceSub,Array.replicate_succ,Array.replicate_zero,List.push_toArray,List.append_toArray,List.nil_append,List.cons_append]
 go_wp2_with (first
  |((with_reducible refine ze rfl _ rfl ?_);refine⟨_,_,rfl,HP,?_⟩)
  |(go_at_call 121;refine(HOf _).mono ?_;rintro e w1 ⟨rfl,hb1⟩)
  |((with_reducible refine zb rfl 173 _ _ rfl ?_);refine⟨w1.heap.size,173,Z.sd c o uo,rfl,rfl,⟨_,heap_alloc_new _ _,(by rw [Z.sd_size];rfl)⟩,Z.info _ _ _,Z.sd_one _ _ _,?_⟩;intro W2 hP2 hR2)
  |((with_reducible refine zj rfl 173 _ rfl underlying173 rfl ?_);refine⟨w1.heap.size,173,Z.sd c o uo,rfl,hR2.alloc _,Z.info _ _ _,?_⟩)
  |(go_at_call 193;refine(zfo _ _ _ _).mono ?_;rintro e w' ⟨rfl,rfl⟩))
 have hb2:=hP2.below ((za HB hb1).alloc (za HB hb1).size (.cells zeroCells173 173)) (za HB hb1).size
 have hs1:=(za HB hb1).size
 have hs2:w1.heap.size+1=W2.heap.size:=by rw [hP2.size];simp
 obtain⟨Bo,hBo⟩:∃Bo,W2.heap.size=Bo:=⟨_,rfl⟩
 have bO:=Boxed.new W2 39 (.slice none 0 0)
 have hbA:=hb2.alloc hb2.size (.cells #[.slice none 0 0] 39)
 have hRs:=RowAt.new (W2.alloc (.cells #[.slice none 0 0] 39)) (Z.sd c o uo) 173
 have hbB:=hbA.alloc hbA.size (.cells (Z.sd c o uo) 173)
 replace bO:=bO.alloc (.cells (Z.sd c o uo) 173)
 rw [World.size_alloc,hBo]at hRs
 rw [hBo]at bO hs2⊢
 have hs0:((W2.alloc (.cells #[.slice none 0 0] 39)).alloc (.cells (Z.sd c o uo) 173)).heap.size=Bo+2:=by simp;omega
 obtain⟨W0,hW0⟩:∃W0,(W2.alloc (.cells #[.slice none 0 0] 39)).alloc (.cells (Z.sd c o uo) 173)=W0:=⟨_,rfl⟩
 rw [hW0]at bO hRs hbB hs0⊢
 have hI0:Z.Row w Bo (fun q=>q=Bo+1) [] W0:=⟨_,bO,World.ownsRow_nil _ _ _ _,(fun q e=>by cases e),(fun q e=>by have e:q=Bo+1:=e;omega),(fun e=>by have e:Bo=Bo+1:=e;omega),hbB⟩
 have HI0:=hid hI0
 have HRs:=hid hRs
 have HbB:=hid hbB
 clear hb1 hP2 hR2 hb2 bO hbA hRs hbB hW0 hI0 hW
 obtain⟨i0,hi,hz0,hz1,hz2⟩:=info_parts info_Mv
 refine(wpIn_wide (n:=6)).1 ?_
 refine zb0 (gf:=273) (lb:= #[.pointer (some ⟨Bo+1,0,none⟩)]) Bo om (fun q=>q=Bo+1) (by rintro q rfl;omega) rfl (enters_of func273 kr rfl) (fun x:Mv=>Z.enc x) (fun _=>rfl)
  (Z.Row w Bo) (fun pre _ _=>pre.length≤30000) (fun x a' W=>∃Bm,RowAt W Bm 47 (M.cell x).toArray∧a'=Z.slots c o uo w w1 Bo Bm x)
  (fun xs=>xs=Z.allR c o uo t (B.list o)) (Z.Row.grow w Bo) (Z.Row.put w Bo om) (fun O s=>Z.Row.puts w W0 Bo om O s) (fun _ _ _ _ _ _ h _ _ _=>h) ?ax ?iter HI0 ?assign ?body ?done
 case ax=>
  rintro x a' W l o1 o' ⟨Bm,hm,rfl⟩ hl ho hn
  exact⟨Bm,⟨(World.putObj_heap_other (by intro e;subst e;rw [hm.heap]at ho;cases ho;cases hn)).trans hm.heap⟩,rfl⟩
 case iter=>
  intro l J W hW hJ1 hJ2 h0 hY
  refine(zdx (6-1) l Bo (Bo+1) c o uo t HC.1 HC.2 ht1 J (fun q=>q=Bo+1) W hJ1 hJ2 h0 (by have:=hW.size;omega) (by rintro q rfl;have:=hW.size;omega) rfl (HRs.belowB hW om) (fun W' hb=>zi HT (HbB.trans ((hW.mono om).trans (hb.mono om)))) (fun O' q x W1 h1 h2=>hY O' q x W1 h1 h2))
 case assign=>
  intro l O pre x W Kk hI hx hK
  have HI:=hid hI
  have HK:=hid hK
  obtain⟨f,g,p,d,ca⟩:=x
  clear hI hK
  simp only [Z.enc,M.cell]
  gi_wp2
  have hbn:Below W.heap.size W (W.alloc (.cells #[.int .i8 f,.int .i8 g,.int .u8 p,.int .u8 d,.bool ca] 47)):=bA
  obtain⟨v,hv,_,_,hO,_⟩:=HI.out
  exact HK _ _ (K.KeepsFrom.of_below hbn) (KO.of_below hbn (by have:=hv.lt;omega) (fun q hq=>(hO q hq).2)) (Z.Row.grow w Bo O O pre W _ HI hbn (fun q hq=> .inl hq)) hx ⟨W.heap.size,RowAt.new _ _ _,rfl⟩
 case body=>
  rintro l O pre x a' W hl ⟨v,hv,hrow,hq,hO,hB,hb⟩ hx ⟨Bm,hm,rfl⟩
  obtain⟨f,g,p,d,ca⟩:=x
  have m0:=hm.cell 0
  have m1:=hm.cell 1
  have m2:=hm.cell 2
  have m3:=hm.cell 3
  have m4:=hm.cell 4
  simp only [M.cell,List.getElem?_toArray,List.getElem?_cons_zero,List.getElem?_cons_succ]at m0 m1 m2 m3 m4
  have hc:=hv.cell
  have hlt:=hv.lt
  have HW:=hid (And.intro hq (And.intro hO (And.intro hB hb)))
  simp only [Z.slots,M.cell]
  clear hq hO hB hb hm hl
  gi_wp2_with (gi_at_builtin;refine wpListIn_append_own_at _ rfl _ _ 39 rfl Bo 47 i0 (.agg #[.int .i8 0,.int .i8 0,.int .u8 0,.int .u8 0,.bool false]) 5 5 underlying39 hi hz0 hz1 hz2 rfl dc _ _ _ rfl (hrow.alloc _) ⟨W.heap.size,0,none⟩ 1 1 (M.cell (f,g,p,d,ca)) rfl rfl (zfv (RowAt.newAt W (M.cell (f,g,p,d,ca)).toArray 47 _ rfl)) (zfP _) (by unfold maxLen;omega) om (by simp;omega) ?_;intro v' w3 hown' hgrow _ hat;obtain⟨g',cap',rfl⟩:=ownsRow_succ hown';obtain⟨hv1,hv2,hr2,hk2,hb2⟩:=hv.appended dc hrow om (Nat.le_refl _) hown' hgrow;have hc1:=hv1.cell;have hf1:=hv1.frozen)
  obtain⟨hq,hO,hB,hb⟩:=HW.out
  have hsz:=hb2.size
  refine⟨hk2.from _,⟨hb2,fun q hq'=> ?_⟩,⟨_,hv2,?_,fun q e hq'=> ?_,fun q h=>⟨(hO q h).1,by have:=(hO q h).2;omega⟩,hB,hb.trans (hb2.mono om)⟩⟩
  ·have h1:=(hO q hq').2
   exact((grownBy_setCell' w3 Bo _).block q (by have:=hgrow.size;simp at this;omega) (fun e=>hB (by cases e;exact hq'))).trans ((hgrow.block q (by simp;omega) (fun e=>hq q e.symm hq')).trans (Below.heap_alloc W _ _ h1))
  ·rw [List.length_append,M.cells_snoc]
   exact hr2
  ·rcases hat with h|h
   ·exact hq q (h.symm.trans e) hq'
   ·have h1:=(hO q hq').2
    rw [h]at e
    simp at e
    omega
 case done=>
  rintro D O xs W hD rfl ⟨v,hv,hrow,_,_,_,hb⟩ hK
  have hc:=hv.cell
  go_wp2
  refine⟨by simp,.inl ⟨_,_,rfl,run_takeDeferred hK,?_⟩⟩
  exact⟨_,results_tmp rfl _ _ _,v,rfl,zbs (ownsRow_putObj hrow _ hK rfl) om,hb.grown (grownBy_putObj' W D _) hb.size (fun k e=>by cases e;omega)⟩
theorem zdh(c:Nat→Int)(w:World)(hc:PosOk c)(hT:Tb w):Calls prog 118 #[.agg (posC c)] w (Z.End (D.lst c) w):=by
 obtain⟨t0,_⟩:=zp hc (i:=78) dc rfl
 obtain⟨t,ht⟩:∃t:Nat,c 78=(t:Int):=⟨(c 78).toNat,by omega⟩
 cases hok:Z.ok c
 ·have HOf:Hid (∀w,cB 121 #[.agg (posC c)] w (.tuple #[.agg (Z.sd (fun _=>0) 0#64 0#64),.bool false])):=hid (fun w=>by
   have:=zc3 c w hc
   unfold Z.ofV at this
   rwa [if_neg (by rw [hok];simp)]at this)
  have E:=hid (show D.lst c=[] by unfold D.lst;rw [if_neg (by rw [hok];simp)])
  have hp:=PosAt.new w c
  have hb0:Below w.heap.size w (w.alloc (.cells (posC c) 31)):=bA
  obtain⟨W,hW⟩:∃W,w.alloc (.cells (posC c) 31)=W:=⟨_,rfl⟩
  rw [hW]at hp hb0
  have HP:=hid hp
  have HB:=hid hb0
  clear hok ht t0 hT hc hp hb0
  go_enter func118,ntmps118
  go_wp2_with (first
   |((with_reducible refine ze rfl _ rfl ?_);refine⟨_,_,rfl,HP,?_⟩)
   |(go_at_call 121;refine(HOf _).mono ?_;rintro e w1 ⟨rfl,hb1⟩)
   |((with_reducible refine zb rfl 173 _ _ rfl ?_);refine⟨w1.heap.size,173,Z.sd (fun _=>0) 0#64 0#64,rfl,rfl,⟨_,heap_alloc_new _ _,(by rw [Z.sd_size];rfl)⟩,Z.info _ _ _,Z.sd_one _ _ _,?_⟩;intro W2 hP2 hR2))
  go_ret
  have hb3:=za HB hb1
  exact⟨_,rfl,by rw [E.out];exact World.ownsRow_nil _ _ _ _,hP2.below (hb3.alloc hb3.size _) hb3.size⟩
 ·have ht1:t≤1:=by
   unfold Z.ok at hok
   simp at hok
   omega
  have:=zhB c t w hc hT ht ht1 hok
  rw [show D.lst c=Z.allR c (Z.own c) (Z.oth c) t (B.list (Z.own c)) by
   unfold D.lst
   rw [if_pos hok,ht,Int.toNat_natCast,←all_eq c t hc ht ht1]
   rfl]
  exact this
end
section
open Go.RowKit
theorem zcX(c:Nat→Int)(t a b:Nat)(m:Mv):m∈Z.eachL c t a b↔∃k,m=Z.mv a b k∧(if P.kind (c (1+a))=1∧Z.rank t b=7 then k∈V.promos (c 0).toNat else k=0):=by
 unfold Z.eachL
 split
 ·rw [List.mem_map]
  constructor
  ·rintro⟨k,h,rfl⟩;exact⟨k,rfl,h⟩
  ·rintro⟨k,rfl,h⟩;exact⟨k,h,rfl⟩
 ·rw [List.mem_singleton]
  constructor
  ·rintro rfl;exact⟨0,rfl,rfl⟩
  ·rintro⟨k,rfl,rfl⟩;rfl
theorem zbP(c:Nat→Int)(t:Nat)(m:Mv):m∈D.list13 c t↔∃a b,a<64∧b<64∧D.may c t a b=true∧m∈Z.eachL c t a b:=by
 unfold D.list13
 simp only [List.mem_flatMap,List.mem_range]
 constructor
 ·rintro⟨a,ha,b,hb,h⟩
  split at h
  ·rename_i hm;exact⟨a,b,ha,hb,hm,h⟩
  ·cases h
 ·rintro⟨a,b,ha,hb,hm,h⟩
  exact⟨a,ha,b,hb,by rw [if_pos hm];exact h⟩
end
section
open Go.RowKit Go.Sort
namespace Z
def taken(c:Nat→Int)(m:Mv):Int:=
 if m∈D.lst c then(if bit (oth c) m.2.1.toNat=true then m.2.1 else if P.kind (c (1+m.1.toNat))=1∧m.1 % 8≠m.2.1 % 8 then ahead (1-(c 78).toNat) m.2.1 else-1)else-1
end Z
theorem zh9(c:Nat→Int)(m:Mv)(h:m∈D.lst c):Z.ok c=true∧∃a b k:Nat,a<64∧b<64∧m=Z.mv a b k:=by
 unfold D.lst at h
 split at h
 ·rename_i hok
  obtain⟨a,b,ha,hb,_,he⟩:=(zbP ..).1 h
  obtain⟨k,rfl,_⟩:=(zcX ..).1 he
  exact⟨hok,a,b,k,ha,hb,rfl⟩
 ·cases h
theorem zd0(c:Nat→Int):(D.lst c).length≤30000:=by
 unfold D.lst
 split
 ·have:=D.rowA_len c (c 78).toNat 64
  rw [D.list_row]
  omega
 ·simp
theorem M.Reads.own{w:World}{base:Nat}{v:Value}{l:List Mv}(h:w.ownsRow base 47 5 v l.length (M.cells l)):M.Reads w v l:=M.reads_own h
theorem ziL:∀b:Fin 64,IntKind.u64.wrap ((b.val:Nat):Int)=((b.val:Nat):Int):=by decide+kernel
theorem u64_sq(b:Nat)(h:b<64):IntKind.u64.wrap (b:Int)=(b:Int):=ziL ⟨b,h⟩
theorem zen(t b:Nat)(ht1:t≤1)(hb:b<64)(w:World)(T:Int)(h:T=1-(t:Int)):cR 123 #[.int .u8 T,.int .i64 (b:Int)] w (.int .i64 (Z.ahead (1-t) (b:Int))) fun w'=>w=w':=by
 have e:T=((1-t:Nat):Int):=by omega
 rw [e]
 exact zbq (1-t) (b:Int) w om om
theorem bit_val(x:BitVec 64)(b:Nat)(hb:b<64)(v:Bool)(h:bit x b=v):(U (bAnd x (B.one (b:Int))) !=0)=v:=by rw [zhq x b hb,h]
theorem zcy(c:Nat→Int)(f g p d:Int)(ca:Bool)(w:World)(hc:PosOk c)(hT:Tb w):
  cB 51 #[.agg (posC c),.agg #[.int .i8 f,.int .i8 g,.int .u8 p,.int .u8 d,.bool ca]] w (.int .i64 (Z.taken c (f,g,p,d,ca))):=by
 have hbd:=zw hc
 have hp:=PosAt.new w c
 have hb0:Below w.heap.size w (w.alloc (.cells (posC c) 31)):=bA
 obtain⟨W0,hW0⟩:∃W0,w.alloc (.cells (posC c) 31)=W0:=⟨_,rfl⟩
 have hs1:W0.heap.size=w.heap.size+1:=by rw [←hW0];simp
 rw [hW0]at hp hb0
 have hm:=RowAt.new W0 #[.int .i8 f,.int .i8 g,.int .u8 p,.int .u8 d,.bool ca] 47
 replace hp:=hp.alloc (.cells #[.int .i8 f,.int .i8 g,.int .u8 p,.int .u8 d,.bool ca] 47)
 replace hb0:=hb0.alloc om (.cells #[.int .i8 f,.int .i8 g,.int .u8 p,.int .u8 d,.bool ca] 47)
 obtain⟨W,hW⟩:∃W,W0.alloc (.cells #[.int .i8 f,.int .i8 g,.int .u8 p,.int .u8 d,.bool ca] 47)=W:=⟨_,rfl⟩
 have hs0:W.heap.size=w.heap.size+2:=by rw [←hW];simp;omega
 rw [hW]at hp hm hb0
 rw [hs1]at hm
 have HP:=hid (And.intro hp (And.intro hm hb0))
 have HT:=hid hT
 have HC:=hid hc
 have hzs:(prog.info? 173).map (·.size)=some zeroCells173.size:=by rw [Z.zero];exact Z.info _ _ _
 clear hp hm hb0
 cases hok:Z.ok c
 ·have HOf:Hid (∀w,cB 121 #[.agg (posC c)] w (.tuple #[.agg (Z.sd (fun _=>0) 0#64 0#64),.bool false])):=hid (fun w=>by
   have:=zc3 c w hc
   unfold Z.ofV at this
   rwa [if_neg (by rw [hok];simp)]at this)
  have E:=hid (show Z.taken c (f,g,p,d,ca)= -1 by
   unfold Z.taken
   rw [if_neg]
   intro h
   have:=(zh9 c _ h).1
   rw [hok]at this
   cases this)
  clear hok hc hT hbd
  go_enter func51,ntmps51
  go_wp2_with (first
   |((with_reducible refine ze rfl _ rfl ?_);refine⟨_,_,rfl,HP.1,?_⟩)
   |(go_at_call 121;refine(HOf _).mono ?_;rintro e w1 ⟨rfl,hb1⟩)
   |((with_reducible refine zb rfl 173 _ _ rfl ?_);refine⟨w1.heap.size,173,Z.sd (fun _=>0) 0#64 0#64,rfl,rfl,⟨_,heap_alloc_new _ _,(by rw [Z.sd_size];rfl)⟩,Z.info _ _ _,Z.sd_one _ _ _,?_⟩;intro W2 hP2 hR2))
  have hb3:=za HP.2.2 hb1
  have HB3:=hid (hP2.below (hb3.alloc hb3.size (.cells zeroCells173 173)) hb3.size)
  clear hb3 hP2 hR2 hb1
  go_quiet (fail)
  go_wp2
  go_ret
  exact⟨ret_int E.symm,M.below_drew HB3 _⟩
 ·have HOf:Hid (∀w,cB 121 #[.agg (posC c)] w (.tuple #[.agg (Z.sd c (Z.own c) (Z.oth c)),.bool true])):=hid (fun w=>by
   have:=zc3 c w hc
   unfold Z.ofV at this
   rwa [if_pos hok]at this)
  have hinfo:(prog.info? 31).map (·.size)=some (posL c).length:=by rw [infoPos];simp [posL]
  have hu:=underlying31
  have huM:=underlying47
  have hPL:Hid (∀w,Tb w→Calls prog 118 #[.agg (posC c)] w (Z.End (D.lst c) w)):=hid (fun w hw=>zdh c w hc hw)
  have HLL:=hid (zd0 c)
  have HSQ:=hid (zh9 c (f,g,p,d,ca))
  have HTK:Hid (Z.taken c (f,g,p,d,ca)=if(f,g,p,d,ca)∈D.lst c then(if bit (Z.oth c) g.toNat=true then g else if P.kind (c (1+f.toNat))=1∧f % 8≠g % 8 then Z.ahead (1-(c 78).toNat) g else-1)else-1):=hid rfl
  obtain⟨o,ho⟩:∃o,Z.own c=o:=⟨_,rfl⟩
  obtain⟨uo,huo⟩:∃uo,Z.oth c=uo:=⟨_,rfl⟩
  rw [ho,huo]at HOf
  rw [huo]at HTK
  have HOK:=hid hok
  clear hok hc hT hbd ho huo
  go_enter func51,ntmps51
  go_wp2_with (first
   |((with_reducible refine ze rfl _ rfl ?_);refine⟨_,_,rfl,HP.1,?_⟩)
   |(go_at_call 121;refine(HOf _).mono ?_;rintro e w1 ⟨rfl,hb1⟩)
   |((with_reducible refine zb rfl 173 _ _ rfl ?_);refine⟨w1.heap.size,173,Z.sd c o uo,rfl,rfl,⟨_,heap_alloc_new _ _,(by rw [Z.sd_size];rfl)⟩,Z.info _ _ _,Z.sd_one _ _ _,?_⟩;intro W2 hP2 hR2))
  have hb3:=za HP.2.2 hb1
  have hs3:=hb1.size
  have hb4:=hb3.alloc hb3.size (.cells zeroCells173 173)
  have hSd:(fun w'=>PosAt w' w.heap.size c∧RowAt w' (w.heap.size+1) 47 [.int .i8 f,.int .i8 g,.int .u8 p,.int .u8 d,.bool ca].toArray∧RowAt w' w1.heap.size 173 (Z.sd c o uo)∧Below w.heap.size w w') W2.drew:=
   ⟨⟨(hP2.pos ((HP.1.below hb1).alloc _) om).heap⟩,⟨(hP2.row ((HP.2.1.below hb1).alloc _) om).heap⟩,⟨hR2.heap⟩,M.below_drew (hP2.below hb4 hb3.size) 1⟩
  obtain⟨S,hS⟩:∃S:World→Prop,S=fun w'=>PosAt w' w.heap.size c∧RowAt w' (w.heap.size+1) 47 [.int .i8 f,.int .i8 g,.int .u8 p,.int .u8 d,.bool ca].toArray∧RowAt w' w1.heap.size 173 (Z.sd c o uo)∧Below w.heap.size w w':=⟨_,rfl⟩
  have hSb:∀w' w'',S w'→Below w'.heap.size w' w''→S w'':=fun w' w'' h hb=>by
   rw [hS]at h⊢
   exact⟨h.1.below hb,h.2.1.below hb,h.2.2.1.below hb,za h.2.2.2 hb⟩
  have hS1:S W2.drew:=by rw [hS];exact hSd
  have hpr:∀w',S w'→w'.rangeAt w.heap.size 0 (posL c):=fun w' h=>by rw [hS]at h;exact zfX h.1.heap
  have hmr:∀w',S w'→w'.rangeAt (w.heap.size+1) 0 [.int .i8 f,.int .i8 g,.int .u8 p,.int .u8 d,.bool ca]:=fun w' h=>by
   rw [hS]at h
   intro j v hv
   have:=h.2.1.cell j
   rw [List.getElem?_toArray,hv]at this
   rw [Nat.zero_add]
   exact this
  have hTb:∀w',S w'→Tb w':=fun w' h=>by rw [hS]at h;exact zi HT h.2.2.2
  have HS:=hid hS
  clear hSd hb3 hb4 hP2 hR2 hb1 hS
  refine wp_region_held (S:=S) kr ?_
  refine tP 0 13 (.bool true) hS1 ?_
  simp only [Act.put,sA,sB,sC]
  refine tq 1 14 (.bool false) hS1 ?_
  refine tq 2 15 (.bool false) hS1 ?_
  refine te 3 (some 16) (.agg (posC c)) (yieldsIf_load_mid kr 31 (.tmp 2) kr w.heap.size 0 kr (posL c) _ (fun _ h=>hpr _ h) hu rfl hinfo) hS1 ?_
  refine te 5 (some 18) (.agg #[.int .i8 f,.int .i8 g,.int .u8 p,.int .u8 d,.bool ca]) (yieldsIf_load_mid kr 47 (.tmp 3) kr (w.heap.size+1) 0 kr [.int .i8 f,.int .i8 g,.int .u8 p,.int .u8 d,.bool ca] _ (fun _ h=>hmr _ h) huM rfl size_Mv) hS1 ?_
  refine wpAnyH_all (rs:=[4]) kr sp (fun i hi=> ?_)
  obtain rfl:i=4:=by simpa using hi
  clear hi
  refine zgm rfl rfl ?_
  unfold Oper.wp
  go_simp
  refine(hPL.out _ (hTb _ hS1)).mono ?_
  rintro e u3 ⟨v3,rfl,hown3,hb⟩
  have hS3:=hSb _ _ hS1 hb
  clear hb
  refine⟨hS3,?_⟩
  refine wpAnyH_all (rs:=[6]) kr sp (fun i hi=> ?_)
  obtain rfl:i=6:=by simpa using hi
  clear hi
  refine zgm rfl rfl ?_
  unfold Oper.wp
  go_simp
  refine(zaX (D.lst c) v3 f g p d ca _ (M.reads_own hown3) (Nat.le_trans HLL dc)).mono ?_
  rintro e u4 ⟨rfl,hb⟩
  have hS4:=hSb _ _ hS3 hb
  clear hb
  refine⟨hS4,?_⟩
  generalize hx:decide ((f,g,p,d,ca)∈D.lst c)=x
  clear hown3 hS3 hS1
  cases x
  ·skip
   refine tq 7 20 (.bool true) hS4 ?_
   refine tq 8 21 (.bool true) hS4 ?_
   refine wpAnyH_done kr ?_ _
   have E:=hid (show Z.taken c (f,g,p,d,ca)= -1 by rw [HTK.out,if_neg (by simpa using hx)])
   rw [HS.out]at hS4
   have HF:=hid hS4.2.2.2
   clear hx hS4 hSb hpr hmr hTb
   go_wp2
   go_ret
   exact⟨ret_int E.symm,HF⟩
  ·skip
   refine tq 7 20 (.bool false) hS4 ?_
   refine tq 8 21 (.bool false) hS4 ?_
   refine wpAnyH_done kr ?_ _
   obtain⟨hok',a,b,k,ha,hb,hm⟩:=HSQ (by simpa using hx)
   have hmem:(f,g,p,d,ca)∈D.lst c:=by simpa using hx
   unfold Z.mv at hm
   simp only [Prod.mk.injEq]at hm
   obtain⟨rfl,rfl,rfl,rfl,rfl⟩:=hm
   obtain⟨t0,t1'⟩:=zp HC (i:=78) dc rfl
   obtain⟨t,ht⟩:∃t:Nat,c 78=(t:Int):=⟨(c 78).toNat,by omega⟩
   have ht1:t≤1:=by
    unfold Z.ok at hok'
    simp at hok'
    omega
   rw [HS.out]at hS4
   obtain⟨hq1,hq2,hq3,hq4⟩:=hS4
   have m0:=hq2.cell 0
   have m1:=hq2.cell 1
   simp only [List.getElem?_toArray,List.getElem?_cons_zero,List.getElem?_cons_succ]at m0 m1
   have hoth:=(hq3.cell 89).trans (Z.sd_oth c o uo)
   have hsq:=ziH hq1.heap a ha
   have h78:=hq1.cell (i:=78) dc
   rw [ht,show pk 78= .u8 from rfl]at h78
   have hone:IntKind.u64.wrap (2 ^ b)=U (B.one b):=B.one_val b om om
   have hwb:wrap64 (b:Int)=(b:Int):=IntWalk.wrap64_in _ ⟨by omega,by omega⟩
   have hwu:=u64_sq b hb
   obtain⟨y0,y1⟩:=zw HC a ha
   have HF:=hid hq4
   obtain⟨x,hxx⟩:∃x,c (1+a)=x:=⟨_,rfl⟩
   rw [hxx]at hsq y0 y1
   have HK:Hid (∀w,cR 122 #[.int .u8 x] w (.int .u8 (P.kind x)) fun w'=>w=w'):=hid (fun w=>zaF x w y0 y1)
   have HAh:=hid (zen t b ht1 hb)
   have hwt:IntKind.u8.wrap (1-(t:Int))=1-(t:Int):=by rw [IntKind.wrap_u8];omega
   have ra:=tmod8 a
   have rb:=tmod8 b
   have hTK:=HTK.out
   rw [if_pos hmem,ht,Int.toNat_natCast,Int.toNat_natCast,Int.toNat_natCast,hxx]at hTK
   obtain⟨v,hv⟩:∃v,bit uo b=v:=⟨_,rfl⟩
   have hbt:=bit_val uo b hb v hv
   rw [hv]at hTK
   generalize P.kind x=kk at*
   clear hq1 hq2 hq3 hq4 hmem hx hSb hpr hmr hTb hok' hxx ht hv t0 t1'
   cases v
   ·rw [if_neg sp]at hTK
    by_cases k1:kk=1
    ·have d1:(kk==1)=true:=by simpa using k1
     by_cases hf:(a:Int) % 8=(b:Int) % 8
     ·have d2:((a:Int) % 8 !=(b:Int) % 8)=false:=by simpa using hf
      have E:=hid (hTK.trans (if_neg (fun h=>h.2 hf)))
      clear hTK k1 hf
      go_wp2_with (go_at_call 122;refine(HK _).mono ?_;rintro e w7 ⟨rfl,rfl⟩)
      go_ret
      exact⟨ret_int E.symm,HF⟩
     ·have d2:((a:Int) % 8 !=(b:Int) % 8)=true:=by simpa using hf
      have E:=hid (hTK.trans (if_pos ⟨k1,hf⟩))
      clear hTK k1 hf
      go_wp2_with (first
       |(go_at_call 122;refine(HK _).mono ?_;rintro e w7 ⟨rfl,rfl⟩)
       |(go_at_call 123;refine(HAh _ _ (by first|rfl|omega)).mono ?_;rintro e w7 ⟨rfl,rfl⟩))
      go_ret
      exact⟨ret_int E.symm,HF⟩
    ·have d1:(kk==1)=false:=by simpa using k1
     have E:=hid (hTK.trans (if_neg (fun h=>k1 h.1)))
     clear hTK k1
     go_wp2_with (go_at_call 122;refine(HK _).mono ?_;rintro e w7 ⟨rfl,rfl⟩)
     go_ret
     exact⟨ret_int E.symm,HF⟩
   ·have E:=hid (hTK.trans (if_pos rfl))
    clear hTK
    go_wp2
    go_ret
    exact⟨ret_int E.symm,HF⟩
end
end Go.Proofs.YtbakeajgolhkgaaGreatDoor
