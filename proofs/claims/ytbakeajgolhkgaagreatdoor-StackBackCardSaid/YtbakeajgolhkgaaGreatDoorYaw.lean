import Derived.Test.YtbakeajgolhkgaaGreatDoorYav
import Derived.Test.YtbakeajgolhkgaaGreatDoorYao
import Derived.Test.YtbakeajgolhkgaaGreatDoorYaq
import Derived.Test.YtbakeajgolhkgaaGreatDoorYau
set_option maxRecDepth 100000
set_option maxHeartbeats 8000000
namespace Go.Proofs.YtbakeajgolhkgaaGreatDoor
open Go.Proofs.Tryz
open Go.RowKit Go.Sort
namespace T
end T
namespace T
def toMv(x:Nat×Nat):Mv:=((x.1:Int),(x.2:Int),0,0,true)
theorem zhh(l:List (Nat×Nat)):cells l=M.cells (l.map toMv):=by
 unfold cells M.cells
 rw [List.flatMap_map]
 rfl
theorem End.row{l:List (Nat×Nat)}{w w':World}{e:Ending}(h:End l w e w'):∃v,e= .returned v∧w'.ownsRow (w.heap.size+1) 47 5 v (l.map toMv).length (M.cells (l.map toMv))∧Below w.heap.size w w':=by
 obtain⟨v,rfl,h1,h2⟩:=h
 exact⟨v,rfl,by rw [List.length_map,←zhh];exact h1,h2⟩
end T
theorem zgW(c:Nat→Int)(l:List Mv)(w:World)(hc:PosOk c)(hT:Tb w)(h:(T.clist c).map T.toMv=l):
  Calls prog 119 #[.agg (posC c)] w fun e w'=>∃v,e= .returned v∧w'.ownsRow (w.heap.size+1) 47 5 v l.length (M.cells l)∧Below w.heap.size w w':=by
 rw [←h];exact(zgt c w hc hT).mono fun e w' hh=>T.End.row hh
namespace A
def all(c:Nat→Int):List Mv:=D.lst c++((T.clist c).map T.toMv++drops c)
def IsPlain(m:Mv):Prop:=∃F G k:Nat,F<64∧G<64∧k≤6∧m=((F:Int),(G:Int),(k:Int),0,false)
def IsCast(c:Nat→Int)(m:Mv):Prop:=∃F G kgn rgn:Nat,F<64∧G<64∧kgn<64∧rgn<64∧T.goalsV c (T.side c F G true)= .tuple #[.int .i64 (kgn:Int),.int .i64 (rgn:Int),.bool true]∧kg c m=kgn∧rg c m=rgn∧m=((F:Int),(G:Int),0,0,true)
def IsDrop(m:Mv):Prop:=∃s k:Nat,s<64∧1≤k∧k≤5∧m=((s:Int),(s:Int),0,(k:Int),false)
theorem zfT(c:Nat→Int)(m:Mv)(hc:PosOk c)(h:m∈(T.clist c).map T.toMv):c 78≤1∧IsCast c m:=by
 obtain⟨x,hx,rfl⟩:=List.mem_map.1 h
 obtain⟨t,d,hI⟩:=T.clist_mem c x hc hx
 have h1:=hI.t2
 have h2:=hI.khome
 have h3:=hI.shome
 have h4:=hI.ne
 have h5:=hI.dir
 have h6:=hI.d2
 have h7:=hI.turn
 have hs:=T.side_is hI
 refine⟨by omega,x.1,x.2,56*t+(if d=0 then 6 else 2),56*t+(if d=0 then 5 else 3),by omega,by omega,by split<;>omega,by split<;>omega,?_,?_,?_,rfl⟩
 ·rw [hs]
  unfold T.goalsV
  rw [if_neg om,h7]
  by_cases e:d=0
  ·subst e
   simp
  ·rw [if_neg om,if_neg om,if_neg e,if_neg e]
   simp
 ·unfold kg T.toMv
  rw [h7,Int.toNat_natCast]
  dsimp only
  by_cases e:d=0
  ·have:=h5.2 e
   rw [if_pos e,if_pos om]
  ·rw [if_neg e,if_neg (fun hh=>e (h5.1 om))]
 ·unfold rg T.toMv
  rw [h7,Int.toNat_natCast]
  dsimp only
  by_cases e:d=0
  ·have:=h5.2 e
   rw [if_pos e,if_pos om]
  ·rw [if_neg e,if_neg (fun hh=>e (h5.1 om))]
theorem zcK(c:Nat→Int)(m:Mv)(h:m∈D.lst c):c 78≤1∧IsPlain m:=by
 unfold D.lst at h
 split at h
 ·rename_i hok
  obtain⟨a,b,ha,hb,_,he⟩:=(zbP ..).1 h
  obtain⟨k,rfl,hk⟩:=(zcX ..).1 he
  have h78:c 78≤1:=by
   unfold Z.ok at hok
   simp at hok
   omega
  refine⟨h78,a,b,k,ha,hb,?_,rfl⟩
  split at hk
  ·have hl:=V.last_bd (c 0).toNat
   unfold V.promos at hk
   obtain⟨i,hi,rfl⟩:=List.mem_range'.1 hk
   omega
  ·omega
 ·cases h
theorem all_mem(c:Nat→Int)(m:Mv)(hc:PosOk c)(h:m∈all c):c 78≤1∧(IsPlain m∨IsCast c m∨IsDrop m):=by
 unfold all at h
 rcases List.mem_append.1 h with h|h
 ·exact⟨(zcK c m h).1,.inl (zcK c m h).2⟩
 rcases List.mem_append.1 h with h|h
 ·exact⟨(zfT c m hc h).1,.inr (.inl (zfT c m hc h).2)⟩
 ·obtain⟨_,h1,k,s,hk1,hk5,hs,rfl⟩:=zhG c m h
  exact⟨h1,.inr (.inr ⟨s,k,hs,hk1,hk5,rfl⟩)⟩
theorem zfl(c:Nat→Int)(t F G:Nat)(hF:F<64)(hG:G<64)(hk:P.kind (c (1+F))=1)(hm:D.may c t F G=true):(t=0→8≤G)∧(t=1→G<56):=by
 unfold D.may at hm
 rw [if_pos hk]at hm
 simp only [Bool.and_eq_true,decide_eq_true_eq]at hm
 obtain⟨_,ho,_,hp⟩:=hm
 unfold D.own at ho
 simp only [Bool.and_eq_true,beq_iff_eq]at ho
 unfold D.pawn at hp
 split at hp
 ·rename_i hh
  unfold D.hits at hh
  rw [if_pos hk]at hh
  split at hh
  ·rename_i h0
   simp only [Bool.and_eq_true,beq_iff_eq,D.up]at hh
   rw [h0]at ho
   omega
  ·rename_i h0
   simp only [Bool.and_eq_true,beq_iff_eq,D.up]at hh
   omega
 ·split at hp
  ·rename_i e
   unfold D.up1 at e
   split at e<;>omega
  ·simp only [Bool.and_eq_true,decide_eq_true_eq]at hp
   have e:=hp.1
   unfold D.up1 at e
   split at e<;>omega
theorem zhP(c:Nat→Int)(m:Mv): -1≤Z.taken c m∧Z.taken c m<64:=by
 unfold Z.taken
 split
 ·rename_i hm
  have h78:=(zcK c m hm).1
  unfold D.lst at hm
  split at hm
  ·rename_i hok
   obtain⟨F,G,hF,hG,hmay,he⟩:=(zbP ..).1 hm
   obtain⟨k,rfl,_⟩:=(zcX ..).1 he
   have e1:(Z.mv F G k).1=(F:Int):=rfl
   have e2:(Z.mv F G k).2.1=(G:Int):=rfl
   rw [e1,e2,Int.toNat_natCast,Int.toNat_natCast]
   split
   ·omega
   ·split
    ·rename_i hh
     obtain⟨h1,h2⟩:=zfl c _ F G hF hG hh.1 hmay
     unfold Z.ahead
     split<;>omega
    ·omega
  ·cases hm
 ·omega
theorem wf8{n:Int}(h0:0≤n)(h1:n≤255):(Lit.int .u8 n).wf=true:=all8 (fun n=>(Lit.int .u8 n).wf=true) (by decide+kernel) n h0 h1
theorem wfU(b:BitVec 64):(Lit.int .u64 (U b)).wf=true:=by
 have:=b.isLt
 unfold U
 simp [Lit.wf,IntKind.min,IntKind.max,IntKind.signed,IntKind.bits]
 omega
theorem pk_sq{i:Nat}(h:i≤64):pk i= .u8:=by unfold pk;rw [if_pos om]
theorem ok_sq{q:Nat→Int}(h:PosOk q){i:Nat}{n:Int}(hi:i≤64)(h0:0≤n)(h1:n≤255):PosOk (upd q i n):=posOk_upd h i n (by rw [pk_sq hi];exact wf8 h0 h1)
theorem ok_mark{q:Nat→Int}(h:PosOk q)(b:BitVec 64):PosOk (upd q 65 (U b)):=posOk_upd h 65 _ (wfU b)
theorem make_bd(c k:Int)(h0:0≤c)(_h1:c≤255)(_h2:0≤k)(_h3:k≤255):0≤P.make c k∧P.make c k≤255:=by
 unfold P.make
 split<;>omega
theorem zh6{color kind:Int}(h0:0≤color)(h:fits color kind=true):pk (pk6 color kind)= .u8∧pk6 color kind<88:=by
 obtain⟨h1,h2⟩:=fits_cases h0 h
 rcases h1 with rfl|rfl<;>rcases h2 with rfl|rfl|rfl|rfl|rfl<;>decide
theorem ok_add{q:Nat→Int}(h:PosOk q)(color kind:Int)(h0:0≤color):PosOk (add q color kind):=by
 unfold add
 split
 ·rename_i hh
  obtain⟨hk,hl⟩:=zh6 h0 hh.1
  have:=h _ hl
  rw [hk]at this
  have:=bounds_u8 this
  exact posOk_upd h _ _ (by rw [hk];exact wf8 om om)
 ·exact h
theorem ziS{q:Nat→Int}(h:PosOk q)(color kind:Int)(h0:0≤color):PosOk (take q color kind):=by
 unfold take
 split
 ·rename_i hh
  obtain⟨hk,hl⟩:=zh6 h0 hh.1
  have:=h _ hl
  rw [hk]at this
  have:=bounds_u8 this
  exact posOk_upd h _ _ (by rw [hk];exact wf8 om om)
 ·exact h
theorem ok_men{c:Nat→Int}(h:PosOk c)(F G:Nat)(p d:Int)(ca:Bool)(t:Int)(hF:F<64)(hG:G<64)(h78:c 78≤1)(hp:0≤p∧p≤255)(hd:0≤d∧d≤255)(ht:t<64)
  (hk:ca=true→kg c ((F:Int),(G:Int),p,d,ca)<64∧rg c ((F:Int),(G:Int),p,d,ca)<64):PosOk (men c ((F:Int),(G:Int),p,d,ca) t):=by
 have hcF:cellF ((F:Int),(G:Int),p,d,ca)=1+F:=by unfold cellF;simp
 have hcG:cellT ((F:Int),(G:Int),p,d,ca)=1+G:=by unfold cellT;simp
 have hbF:=zw h F hF
 have hbG:=zw h G hG
 have t0:=(zp h (i:=78) dc rfl).1
 have hT:PosOk (if 0≤t then upd c (1+t.toNat) 0 else c):=by
  split
  ·exact ok_sq h om om om
  ·exact h
 unfold men
 rw [hcF,hcG]
 split
 ·rename_i e
  obtain⟨k1,k2⟩:=hk e
  exact ok_sq (ok_sq (ok_sq (ok_sq h om om om) om om om) om hbF.1 hbF.2) om hbG.1 hbG.2
 ·split
  ·have hm:=make_bd (c 78) d t0 om hd.1 hd.2
   exact ok_sq (ziS h _ _ t0) om hm.1 hm.2
  ·split
   ·have hm:=make_bd (c 78) p t0 om hp.1 hp.2
    exact ok_sq (ok_sq (ok_sq hT om om om) om hbF.1 hbF.2) om hm.1 hm.2
   ·exact ok_sq (ok_sq hT om om om) om hbF.1 hbF.2
theorem ok_pocketT{q:Nat→Int}(h:PosOk q)(c:Nat→Int)(t:Int):PosOk (pocketT c q t):=by
 unfold pocketT
 split
 ·exact ok_mark (ok_add h _ _ (zp h (i:=78) dc rfl).1) _
 ·exact h
theorem zfy{q:Nat→Int}(h:PosOk q)(c:Nat→Int)(m:Mv)(t:Int):PosOk (pocket c q m t):=by
 unfold pocket
 split
 ·exact h
 ·split
  ·split
   ·exact ok_mark (ok_mark h _) _
   ·exact h
  ·split
   ·exact ok_mark (ok_mark (ok_pocketT h c t) _) _
   ·exact ok_mark (ok_pocketT h c t) _
theorem zgQ:∀(l:List Nat) {q:Nat→Int},PosOk q→(∀x∈l,x<64)→PosOk (wipe q l)
 |[],_,h,_=>h
 |s::l,q,h,hl=>by
  have:=hl s List.mem_cons_self
  exact zgQ l (ok_sq h om om om) (fun x hx=>hl x (List.mem_cons_of_mem _ hx))
theorem zi8{q:Nat→Int}(h:PosOk q)(m:Mv)(t:Int):PosOk (blow q m t):=by
 unfold blow
 split
 ·exact h
 ·exact zgQ _ h (fun x hx=>by unfold B.list at hx;exact List.mem_range.1 (List.mem_filter.1 hx).1)
theorem pk_r{i:Nat}(h:79≤i∧i≤83):pk i= .i8:=by
 obtain⟨h1,h2⟩:=h
 rcases(show i=79∨i=80∨i=81∨i=82∨i=83 by omega)with rfl|rfl|rfl|rfl|rfl<;>rfl
theorem ok_r{q:Nat→Int}(h:PosOk q){i:Nat}(hi:79≤i∧i≤83):PosOk (upd q i (-1)):=posOk_upd h i _ (by rw [pk_r hi];decide)
theorem ok_rights0{q:Nat→Int}(h:PosOk q)(c:Nat→Int)(m:Mv)(h78:q 78≤1):PosOk (rights0 c q m):=by
 have:=(zp h (i:=78) dc rfl).1
 unfold rights0
 split
 ·exact ok_r (ok_r h om) om
 ·exact h
theorem zaD{q:Nat→Int}(h:PosOk q)(m:Mv)(t:Int)(col side:Nat)(h1:col≤1)(h2:side≤1):PosOk (rights1 q m t col side):=by
 unfold rights1
 split
 ·exact ok_r h om
 ·exact h
theorem zg5{q:Nat→Int}(h:PosOk q)(c:Nat→Int)(m:Mv)(t:Int)(h78:q 78≤1):PosOk (rights c q m t):=by
 unfold rights
 exact zaD (zaD (zaD (zaD (ok_rights0 h c m h78) _ _ _ _ om om) _ _ _ _ om om) _ _ _ _ om om) _ _ _ _ om om
theorem wf_i8{n:Int}(h0: -128≤n)(h1:n≤127):(Lit.int .i8 n).wf=true:=by
 have:=all8 (fun x=>(Lit.int .i8 (x-128)).wf=true) (by decide+kernel) (n+128) om om
 rwa [show n+128-128=n by omega]at this
theorem ziD{q:Nat→Int}(h:PosOk q)(c:Nat→Int)(F G:Nat)(p d:Int)(ca:Bool)(hF:F<64)(hG:G<64):PosOk (pass c q ((F:Int),(G:Int),p,d,ca)):=by
 unfold pass
 split
 ·refine posOk_upd (ok_r h om) 83 _ ?_
  rw [show pk 83= .i8 from rfl]
  refine wf_i8 ?_ ?_
  ·show-128≤((F:Int)+(G:Int))/2
   omega
  ·show((F:Int)+(G:Int))/2≤127
   omega
 ·exact ok_r h om
theorem wf64{n:Int}(h0: -9223372036854775808≤n)(h1:n≤9223372036854775807):(Lit.int .i64 n).wf=true:=by
 simp [Lit.wf,IntKind.min,IntKind.max,IntKind.signed,IntKind.bits]
 omega
theorem zcM{n:Int}(h0: -9223372036854775808≤n)(h1:n≤9223372036854775807): -9223372036854775808≤more n∧more n≤9223372036854775807:=by
 unfold more
 split<;>omega
theorem zgJ{q:Nat→Int}(h:PosOk q)(c:Nat→Int)(m:Mv)(t:Int):PosOk (clocks c q m t):=by
 have b86:=pos_i64 h (i:=86) dc rfl
 have b87:=pos_i64 h (i:=87) dc rfl
 have h1:PosOk (upd q 86 (if kind c m=1∨0≤t then 0 else more (q 86))):=posOk_upd h 86 _ (by
  rw [show pk 86= .i64 from rfl]
  split
  ·decide
  ·exact wf64 (zcM b86.1 b86.2).1 (zcM b86.1 b86.2).2)
 unfold clocks
 try dsimp only
 split
 ·exact posOk_upd h1 87 _ (by rw [show pk 87= .i64 from rfl];exact wf64 (zcM b87.1 b87.2).1 (zcM b87.1 b87.2).2)
 ·exact h1
theorem zc6{q:Nat→Int}(h:PosOk q)(h78:q 78≤1):PosOk (turn0 q):=by
 have:=(zp h (i:=78) dc rfl).1
 exact posOk_upd h 78 _ (by rw [show pk 78= .u8 from rfl];exact wf8 om om)
theorem zij{q:Nat→Int}(h:PosOk q)(h78:q 78≤1):PosOk (turn q):=by
 have h0:=(zp h (i:=78) dc rfl).1
 unfold turn
 split
 ·rename_i hh
  rcases(show(q 78).toNat=0∨(q 78).toNat=1 by omega)with e|e
  ·rw [e]at hh⊢
   have:=zp h (i:=84) dc rfl
   exact posOk_upd (zc6 h h78) 84 _ (by rw [show pk 84= .u8 from rfl];exact wf8 (by show 0≤q 84+1;omega) (by have:q 84<3:=hh.2.1;show q 84+1≤255;omega))
  ·rw [e]at hh⊢
   have:=zp h (i:=85) dc rfl
   exact posOk_upd (zc6 h h78) 85 _ (by rw [show pk 85= .u8 from rfl];exact wf8 (by show 0≤q 85+1;omega) (by have:q 85<3:=hh.2.1;show q 85+1≤255;omega))
 ·exact zc6 h h78
end A
end Go.Proofs.YtbakeajgolhkgaaGreatDoor
