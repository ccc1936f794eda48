import Derived.Lib.ItoaNum
import Derived.RangeFuncBox
import Derived.Test.YtbakeajgolhkgaaGreatDoorYab
set_option maxRecDepth 100000
set_option maxHeartbeats 8000000
open Go.Lib (hid)
namespace Go.Proofs.YtbakeajgolhkgaaGreatDoor
open Go.Proofs.Tryz
section
open Go.RowKit Go.Sort
namespace D
def by'(c:Nat→Int)(s color:Int):BitVec 64:=if K.there s=true then byTo c s.toNat color 64 else 0#64
end D
namespace D
def check(c:Nat→Int)(color:Int):Bool:=decide (color≤1)&&(decide (0≤king c color)&&(U (by' c (king c color) (K.oc color)) !=0))
end D
end
section
open Go.RowKit
def bit(x:BitVec 64)(n:Nat):Bool:=x.getLsbD n
theorem zac(n:Nat):bit 0#64 n=false:=by simp [bit]
theorem zav(x y:BitVec 64)(n:Nat):bit (bAnd x y) n=(bit x n&&bit y n):=by simp [bit,bAnd]
theorem zag(x y:BitVec 64)(n:Nat):bit (bOr x y) n=(bit x n||bit y n):=by simp [bit,bOr]
theorem bit_lt{x:BitVec 64}{n:Nat}(h:bit x n=true):n<64:=BitVec.lt_of_getLsbD h
theorem zaE(x y:BitVec 64)(n:Nat):bit (bAndn x y) n=(bit x n&& !bit y n):=by
 cases h:bit x n
 ·unfold bit at*;unfold bAndn;rw [BitVec.getLsbD_and,h];rfl
 ·have:=bit_lt h
  unfold bit at*;unfold bAndn;rw [BitVec.getLsbD_and,h,BitVec.getLsbD_not];simp [this]
theorem zaP(s n:Nat)(hs:s<64):bit (B.one (s:Int)) n=decide (n=s):=by
 unfold bit B.one
 rw [if_pos om,BitVec.getLsbD_shiftLeft,BitVec.getLsbD_one,Int.toNat_natCast]
 by_cases h:n=s
 ·subst h;simp;omega
 ·simp [h];omega
theorem zgq{x y:BitVec 64}(h:∀n,n<64→bit x n=bit y n):x=y:=BitVec.eq_of_getLsbD_eq h
theorem zf5{x:BitVec 64}(h:∀n,n<64→bit x n=false):x=0#64:=zgq fun n hn=>by rw [h n hn,zac]
theorem ziC{x:BitVec 64}(h:x≠0#64):∃n,n<64∧bit x n=true:=by
 apply Classical.byContradiction
 intro hn
 exact h (zf5 fun n h64=>by
  cases hb:bit x n
  ·rfl
  ·exact absurd ⟨n,h64,hb⟩ hn)
theorem bit_test(x:BitVec 64)(n:Nat):bit x n=x.toNat.testBit n:=rfl
theorem zbK(b:BitVec 64)(h:b≠0#64):∃n:Nat,B.first b=(n:Int)∧n<64∧bit b n=true∧∀m,m<n→bit b m=false:=by
 have h0:b.toNat≠0:=fun e=>h (BitVec.eq_of_toNat_eq e)
 have hs:=Lib.ctzFrom_spec 64 b.toNat om b.isLt
 obtain⟨m,hm,hlt⟩:=hs
 have hc:Lib.ctz 64 b.toNat=Lib.ctzFrom 64 b.toNat:=by unfold Lib.ctz;rw [if_neg h0]
 refine⟨Lib.ctzFrom 64 b.toNat,by unfold B.first;rw [if_neg h,hc],hlt,?_,fun j hj=> ?_⟩
 ·rw [bit_test]
  generalize Lib.ctzFrom 64 b.toNat=k at*
  rw [hm,Nat.testBit_two_pow_mul]
  simp
 ·rw [bit_test]
  generalize Lib.ctzFrom 64 b.toNat=k at*
  rw [hm,Nat.testBit_two_pow_mul]
  simp
  omega
theorem zfO(b:BitVec 64)(h:b≠0#64):∃n:Nat,B.last b=(n:Int)∧n<64∧bit b n=true∧∀m,n<m→bit b m=false:=by
 have h0:b.toNat≠0:=fun e=>h (BitVec.eq_of_toNat_eq e)
 obtain⟨h1,h2,h3⟩:=Lib.bitLenAux_bounds 64 b.toNat b.isLt h0
 have hl:=B.last_bd b
 unfold Lib.bitLen at hl
 refine⟨Lib.bitLenAux 64 b.toNat-1,by unfold B.last Lib.bitLen;omega,by omega,?_,fun j hj=> ?_⟩
 ·rw [bit_test]
  exact Nat.testBit_of_two_pow_le_and_two_pow_add_one_gt h2 (by rw [Nat.sub_add_cancel h1];exact h3)
 ·rw [bit_test]
  exact Nat.testBit_lt_two_pow (Nat.lt_of_lt_of_le h3 (Nat.pow_le_pow_right dc om))
theorem zcH(c:Nat→Int)(g:Int→Bool)(j:Nat)(hj:j<64):∀n,n≤64→bit (S.upTo c g n) j=(decide (j<n)&&(P.isB (c (1+j))&&g (c (1+j))))
 |0,_=>by simp [S.upTo,zac]
 |n+1,hn=>by
  have ih:=zcH c g j hj n om
  rw [S.upTo]
  split
  ·rename_i hg
   unfold B.put
   rw [zag,ih,zaP n j om]
   by_cases e:j=n
   ·subst e;simp at hg⊢;simp [hg]
   ·have:decide (j<n+1)=decide (j<n):=by simp;omega
    simp [e,this]
  ·rename_i hg
   rw [ih]
   by_cases e:j=n
   ·subst e;simp at hg⊢;exact hg
   ·have:decide (j<n+1)=decide (j<n):=by simp;omega
    rw [this]
theorem zbQ(c:Nat→Int)(j:Nat)(hj:j<64):bit (S.all c) j=P.isB (c (1+j)):=by
 unfold S.all S.set;rw [zcH c _ j hj 64 om];simp [hj]
theorem zeO(c:Nat→Int)(color kind:Int)(j:Nat)(hj:j<64):bit (S.of c color kind) j=(P.isB (c (1+j))&&S.ofG color kind (c (1+j))):=by
 unfold S.of S.set;rw [zcH c _ j hj 64 om];simp [hj]
def inRay(a d b:Nat):Bool:=
 match d with
 |0=>a % 8==b % 8&&Nat.blt (a/8) (b/8)
 |1=>Nat.blt (a % 8) (b % 8)&&(b/8==a/8+(b % 8-a % 8))
 |2=>a/8==b/8&&Nat.blt (a % 8) (b % 8)
 |3=>Nat.blt (a % 8) (b % 8)&&(a/8==b/8+(b % 8-a % 8))
 |4=>a % 8==b % 8&&Nat.blt (b/8) (a/8)
 |5=>Nat.blt (b % 8) (a % 8)&&(a/8==b/8+(a % 8-b % 8))
 |6=>a/8==b/8&&Nat.blt (b % 8) (a % 8)
 |7=>Nat.blt (b % 8) (a % 8)&&(b/8==a/8+(a % 8-b % 8))
 |_=>false
theorem zix:∀(a:Fin 64) (d:Fin 8) (b:Fin 64),bit (R.ray (a.val:Int) d.val) b.val=inRay a.val d.val b.val:=by decide+kernel
theorem zaB(a d b:Nat)(ha:a<64)(hd:d<8)(hb:b<64):bit (R.ray (a:Int) d) b=inRay a d b:=zix ⟨a,ha⟩ ⟨d,hd⟩ ⟨b,hb⟩
def btw(a b j:Nat):Bool:=(List.range (D.dist a b)).any fun k=>Nat.blt 0 k&&D.at' a b k==j
theorem zin:∀(a:Fin 64) (d:Fin 8) (b:Fin 64),inRay a.val d.val b.val=true→∀j:Fin 64,btw a.val b.val j.val=(inRay a.val d.val j.val&&inRay j.val d.val b.val):=by decide+kernel
theorem zd4(a d b j:Nat)(ha:a<64)(hd:d<8)(hb:b<64)(hj:j<64)(h:inRay a d b=true):btw a b j=(inRay a d j&&inRay j d b):=zin ⟨a,ha⟩ ⟨d,hd⟩ ⟨b,hb⟩ h ⟨j,hj⟩
theorem zdD:∀(a b:Fin 64),D.straight a.val b.val=(inRay a.val 0 b.val||(inRay a.val 2 b.val||(inRay a.val 4 b.val||inRay a.val 6 b.val))):=by decide+kernel
theorem ze0:∀(a b:Fin 64),D.across a.val b.val=(inRay a.val 1 b.val||(inRay a.val 3 b.val||(inRay a.val 5 b.val||inRay a.val 7 b.val))):=by decide+kernel
theorem zer:∀(a b:Fin 64),bit (R.king (a.val:Int)) b.val=D.beside a.val b.val:=by decide+kernel
theorem zfe:∀(a b:Fin 64),bit (R.knight (a.val:Int)) b.val=(((D.abs (D.up a.val b.val)==1)&&(D.aside a.val b.val==2))||((D.abs (D.up a.val b.val)==2)&&(D.aside a.val b.val==1))):=by decide+kernel
theorem zga:∀(a b:Fin 64),bit (R.pawn 0 (a.val:Int)) b.val=((D.up a.val b.val==1)&&(D.aside a.val b.val==1)):=by decide+kernel
theorem zgU:∀(a b:Fin 64),bit (R.pawn 1 (a.val:Int)) b.val=((D.up a.val b.val== -1)&&(D.aside a.val b.val==1)):=by decide+kernel
theorem zeg(a d n b:Nat)(h1:inRay a d n=true)(h2:inRay n d b=true):inRay a d b=true:=by
 by_cases hd:d<8
 ·rcases(show d=0∨d=1∨d=2∨d=3∨d=4∨d=5∨d=6∨d=7 by omega)with rfl|rfl|rfl|rfl|rfl|rfl|rfl|rfl<;>simp [inRay]at h1 h2⊢ <;>omega
 ·unfold inRay at h1;split at h1<;>first|omega|cases h1
theorem zhp(a d n j:Nat)(hd:¬(3≤d∧d≤6))(h1:inRay a d n=true)(h2:inRay a d j=true)(h:n<j):inRay n d j=true:=by
 by_cases hd8:d<8
 ·rcases(show d=0∨d=1∨d=2∨d=7 by omega)with rfl|rfl|rfl|rfl<;>simp [inRay]at h1 h2⊢ <;>omega
 ·unfold inRay at h1;split at h1<;>first|omega|cases h1
theorem zeX(a d n j:Nat)(hd:3≤d∧d≤6)(h1:inRay a d n=true)(h2:inRay a d j=true)(h:j<n):inRay n d j=true:=by
 rcases(show d=3∨d=4∨d=5∨d=6 by omega)with rfl|rfl|rfl|rfl<;>simp [inRay]at h1 h2⊢ <;>omega
theorem zgA(a d:Nat)(occ:BitVec 64)(ha:a<64)(hd:d<8)(h:bAnd (R.ray (a:Int) d) occ≠0#64):
  ∃n:Nat,L.near (d:Int) (bAnd (R.ray (a:Int) d) occ)=(n:Int)∧n<64∧inRay a d n=true∧bit occ n=true∧∀j,j<64→inRay a d j=true→bit occ j=true→j=n∨inRay n d j=true:=by
 unfold L.near
 split
 ·rename_i h36
  obtain⟨n,hn,h64,hb,hl⟩:=zfO _ h
  rw [zav,zaB a d n ha hd h64,Bool.and_eq_true]at hb
  refine⟨n,hn,h64,hb.1,hb.2,fun j hj h1 h2=> ?_⟩
  by_cases e:j=n
  ·exact .inl e
  ·refine .inr (zeX a d n j om hb.1 h1 ?_)
   apply Classical.byContradiction
   intro hlt
   have:=hl j om
   rw [zav,zaB a d j ha hd hj,h1,h2]at this
   cases this
 ·rename_i h36
  obtain⟨n,hn,h64,hb,hl⟩:=zbK _ h
  rw [zav,zaB a d n ha hd h64,Bool.and_eq_true]at hb
  refine⟨n,hn,h64,hb.1,hb.2,fun j hj h1 h2=> ?_⟩
  by_cases e:j=n
  ·exact .inl e
  ·refine .inr (zhp a d n j om hb.1 h1 ?_)
   apply Classical.byContradiction
   intro hlt
   have:=hl j om
   rw [zav,zaB a d j ha hd hj,h1,h2]at this
   cases this
def free(occ:BitVec 64)(a b:Nat):Bool:=(List.range 64).all fun j=> !(btw a b j&&bit occ j)
theorem zb5(occ:BitVec 64)(a b:Nat):free occ a b=true↔∀j,j<64→btw a b j=true→bit occ j=false:=by
 unfold free
 rw [List.all_eq_true]
 constructor
 ·intro h j hj hb
  have:=h j (List.mem_range.2 hj)
  rw [hb]at this
  simpa using this
 ·intro h j hj
  cases hb:btw a b j
  ·rfl
  ·rw [h j (List.mem_range.1 hj) hb];rfl
theorem zeV(occ:BitVec 64)(a b:Nat)(j:Nat)(hj:j<64)(h1:btw a b j=true)(h2:bit occ j=true):free occ a b=false:=by
 cases h:free occ a b
 ·rfl
 ·rw [(zb5 _ _ _).1 h j hj h1]at h2;cases h2
theorem zaV(a d b:Nat)(occ:BitVec 64)(ha:a<64)(hd:d<8)(hb:b<64):bit (L.dir (a:Int) d occ) b=(inRay a d b&&free occ a b):=by
 unfold L.dir
 cases hr:inRay a d b
 ·split
  ·rw [zaB a d b ha hd hb,hr];rfl
  ·rw [zaE,zaB a d b ha hd hb,hr];rfl
 ·split
  ·rename_i h0
   rw [zaB a d b ha hd hb,hr,Bool.true_and]
   refine((zb5 _ _ _).2 fun j hj hbt=> ?_).symm
   rw [zd4 a d b j ha hd hb hj hr,Bool.and_eq_true]at hbt
   have:=congrArg (fun x=>bit x j) h0
   simp only [zav,zac,zaB a d j ha hd hj,hbt.1,Bool.true_and]at this
   exact this
  ·rename_i h0
   obtain⟨n,hn,h64,h1,h2,h3⟩:=zgA a d occ ha hd h0
   rw [hn,zaE,zaB a d b ha hd hb,zaB n d b h64 hd hb,hr,Bool.true_and,Bool.true_and]
   cases hnb:inRay n d b
   ·refine((zb5 _ _ _).2 fun j hj hbt=> ?_).symm
    rw [zd4 a d b j ha hd hb hj hr,Bool.and_eq_true]at hbt
    cases ho:bit occ j
    ·rfl
    ·rcases h3 j hj hbt.1 ho with rfl|h
     ·rw [hbt.2]at hnb;cases hnb
     ·rw [zeg n d j b h hbt.2]at hnb;cases hnb
   ·refine(zeV occ a b n h64 ?_ h2).symm
    rw [zd4 a d b n ha hd hb h64 hr,h1,hnb];rfl
theorem zde(a b:Nat)(ha:a<64)(hb:b<64):D.straight a b=(inRay a 0 b||(inRay a 2 b||(inRay a 4 b||inRay a 6 b))):=zdD ⟨a,ha⟩ ⟨b,hb⟩
theorem zfa(a b:Nat)(ha:a<64)(hb:b<64):D.across a b=(inRay a 1 b||(inRay a 3 b||(inRay a 5 b||inRay a 7 b))):=ze0 ⟨a,ha⟩ ⟨b,hb⟩
theorem and4(a b c d f:Bool):((((false||(a&&f))||(b&&f))||(c&&f))||(d&&f))=((a||(b||(c||d)))&&f):=by cases a<;>cases b<;>cases c<;>cases d<;>cases f<;>rfl
theorem zez(a b:Nat)(occ:BitVec 64)(ha:a<64)(hb:b<64):bit (L.rook (a:Int) occ) b=(D.straight a b&&free occ a b):=by
 unfold L.rook L.seen
 simp only [List.foldl_cons,List.foldl_nil]
 rw [zag,zag,zag,zag,zac,zaV a 0 b occ ha om hb,zaV a 2 b occ ha om hb,zaV a 4 b occ ha om hb,zaV a 6 b occ ha om hb,zde a b ha hb,and4]
theorem zcF(a b:Nat)(occ:BitVec 64)(ha:a<64)(hb:b<64):bit (L.bishop (a:Int) occ) b=(D.across a b&&free occ a b):=by
 unfold L.bishop L.seen
 simp only [List.foldl_cons,List.foldl_nil]
 rw [zag,zag,zag,zag,zac,zaV a 1 b occ ha om hb,zaV a 3 b occ ha om hb,zaV a 5 b occ ha om hb,zaV a 7 b occ ha om hb,zfa a b ha hb,and4]
theorem zgo(a b:Nat)(occ:BitVec 64)(ha:a<64)(hb:b<64):bit (L.queen (a:Int) occ) b=((D.straight a b||D.across a b)&&free occ a b):=by
 unfold L.queen
 rw [zag,zez a b occ ha hb,zcF a b occ ha hb]
 cases D.straight a b<;>cases D.across a b<;>cases free occ a b<;>rfl
namespace D
def hitsK(k:Int)(color:Int)(occ:BitVec 64)(a b:Nat):Bool:=
 if k=1 then(if color=0 then(up a b==1)&&(aside a b==1)else(up a b== -1)&&(aside a b==1))
 else if k=2 then((abs (up a b)==1)&&(aside a b==2))||((abs (up a b)==2)&&(aside a b==1))
 else if k=6 then beside a b
 else if k=4 then straight a b&&free occ a b
 else if k=3 then across a b&&free occ a b
 else if k=5 then(straight a b||across a b)&&free occ a b
 else false
end D
theorem isB_kind(x:Int)(h0:0≤x)(h1:x≤255):(P.kind x !=0)=P.isB x:=all8 (fun x=>(P.kind x !=0)=P.isB x) (by decide+kernel) x h0 h1
theorem zcQ(x:Int)(h:P.isB x=true):P.color x=D.color x:=by unfold P.color D.color;rw [h];rfl
theorem za4(x:Int)(h:P.isB x=false):P.kind x=0:=by unfold P.kind;rw [h];rfl
theorem zeL(x:Int)(h0:0≤x)(h1:x≤255)(h:P.isB x=true):1≤P.kind x∧P.kind x≤6∧(P.color x=0∨P.color x=1):=by
 have h2:=P.kind_is x h0 h1 h
 have h3:=P.color_is x h0 h1 h
 omega
theorem zdN(c:Nat→Int)(q:Nat→Nat):∀n k,D.clear c q k n=true↔∀j,k≤j→j<k+n→P.kind (c (1+q j))=0
 |0,k=>by simp [D.clear];intro j h1 h2;omega
 |n+1,k=>by
  rw [D.clear,Bool.and_eq_true,beq_iff_eq,zdN c q n (k+1)]
  constructor
  ·intro⟨h,hr⟩ j h1 h2
   by_cases e:j=k
   ·rw [e];exact h
   ·exact hr j om om
  ·intro h
   exact⟨h k om om,fun j h1 h2=>h j om om⟩
theorem zgz(a b j:Nat):btw a b j=true↔∃k,0<k∧k<D.dist a b∧D.at' a b k=j:=by
 unfold btw
 rw [List.any_eq_true]
 constructor
 ·rintro⟨k,hk,h⟩
  rw [Bool.and_eq_true,beq_iff_eq]at h
  exact⟨k,by simpa using h.1,List.mem_range.1 hk,h.2⟩
 ·rintro⟨k,h0,hk,h⟩
  exact⟨k,List.mem_range.2 hk,by rw [Bool.and_eq_true,beq_iff_eq];exact⟨by simpa using h0,h⟩⟩
theorem zc8(c:Nat→Int)(a b:Nat)(hc:BdOk c)(ha:a<64)(hb:b<64)(h:(D.straight a b||D.across a b)=true):D.clr c a b=free (S.all c) a b:=by
 rw [Bool.eq_iff_iff]
 unfold D.clr
 rw [zdN,zb5]
 have hp:=D.path a b ha hb h
 constructor
 ·intro hk j hj hbt
  obtain⟨k,h0,h1,rfl⟩:=(zgz a b j).1 hbt
  rw [zbQ c _ hj]
  have:=hk k h0 om
  obtain⟨x0,x1⟩:=hc _ hj
  rw [←isB_kind _ x0 x1,this];rfl
 ·intro hf k h0 h1
  have h64:=hp.bd k om
  have:=hf _ h64 ((zgz a b _).2 ⟨k,h0,by omega,rfl⟩)
  rw [zbQ c _ h64]at this
  obtain⟨x0,x1⟩:=hc _ h64
  exact za4 _ this
theorem zdT{s:Bool}{x y:Bool}(h:s=true→x=y):(s&&x)=(s&&y):=by cases s;rfl;rw [h rfl]
theorem zh2(c:Nat→Int)(a b:Nat)(hc:BdOk c)(ha:a<64)(hb:b<64):D.hits c a b=D.hitsK (P.kind (c (1+a))) (D.color (c (1+a))) (S.all c) a b:=by
 unfold D.hits D.hitsK
 rw [zdT (s:=D.straight a b) (fun h=>zc8 c a b hc ha hb (by rw [h];rfl)),zdT (s:=D.across a b) (fun h=>zc8 c a b hc ha hb (by rw [h,Bool.or_true])),zdT (s:=D.straight a b||D.across a b) (fun h=>zc8 c a b hc ha hb h)]
theorem zeN(k:Nat)(color:Int)(occ:BitVec 64)(a b:Nat)(hcol:color=0∨color=1)(ha:a<64)(hb:b<64):bit (K.hits k color (a:Int) occ) b=D.hitsK (k:Int) color occ a b:=by
 by_cases h6:k≤6
 ·rcases(show k=0∨k=1∨k=2∨k=3∨k=4∨k=5∨k=6 by omega)with rfl|rfl|rfl|rfl|rfl|rfl|rfl
  ·exact zac b
  ·rcases hcol with rfl|rfl
   ·exact zga ⟨a,ha⟩ ⟨b,hb⟩
   ·exact zgU ⟨a,ha⟩ ⟨b,hb⟩
  ·exact zfe ⟨a,ha⟩ ⟨b,hb⟩
  ·exact zcF a b occ ha hb
  ·exact zez a b occ ha hb
  ·exact zgo a b occ ha hb
  ·exact zer ⟨a,ha⟩ ⟨b,hb⟩
 ·have e1:K.hits k color (a:Int) occ=0#64:=by
   unfold K.hits
   split<;>first|omega|rfl
  rw [e1,zac]
  unfold D.hitsK
  rw [if_neg om,if_neg om,if_neg om,if_neg om,if_neg om,if_neg om]
theorem zbg(p:Nat→Bool):∀n k,(D.first p k n= -1∧∀j,k≤j→j<k+n→p j=false)∨∃j,k≤j∧j<k+n∧D.first p k n=(j:Int)∧p j=true∧∀i,k≤i→i<j→p i=false
 |0,k=> .inl ⟨rfl,fun j h1 h2=>by omega⟩
 |n+1,k=>by
  rw [D.first]
  cases hp:p k
  ·rw [if_neg sp]
   rcases zbg p n (k+1)with⟨h,hn⟩|⟨j,h1,h2,h3,h4,h5⟩
   ·refine .inl ⟨h,fun j h1 h2=> ?_⟩
    by_cases e:j=k
    ·rw [e];exact hp
    ·exact hn j om om
   ·refine .inr ⟨j,by omega,by omega,h3,h4,fun i hi1 hi2=> ?_⟩
    by_cases e:i=k
    ·rw [e];exact hp
    ·exact h5 i om hi2
  ·exact .inr ⟨k,by omega,by omega,by rw [if_pos rfl],hp,fun i h1 h2=>by omega⟩
theorem zeF(c:Nat→Int)(color:Int)(kind:Int)(hk:1≤kind)(hc:BdOk c)(j:Nat)(hj:j<64):bit (S.of c color kind) j=D.is c j color kind:=by
 obtain⟨x0,x1⟩:=hc j hj
 rw [zeO c color kind j hj]
 unfold S.ofG D.is
 cases hb:P.isB (c (1+j))
 ·rw [za4 _ hb,show((0:Int)==kind)=false by simp;omega];simp
 ·rw [zcQ _ hb,show(kind==0)=false by simp;omega,Bool.true_and,Bool.false_or,Bool.and_comm]
theorem zcS(c:Nat→Int)(color:Int)(hc:BdOk c):S.find c color 6=D.find c color 6:=by
 unfold S.find D.find
 rcases zbg (fun s=>D.is c s color 6) 64 0 with⟨h,hn⟩|⟨j,_,h2,h3,h4,h5⟩
 ·rw [h,zf5 (x:=S.of c color 6) fun n h64=>by rw [zeF c color 6 om hc n h64];exact hn n om om]
  rfl
 ·have hne:S.of c color 6≠0#64:=by
   intro e
   have:=zeF c color 6 om hc j om
   rw [e,zac,h4]at this
   cases this
  obtain⟨n,e,h64,hb,hl⟩:=zbK _ hne
  rw [e,h3]
  rw [zeF c color 6 om hc n h64]at hb
  have h6:n=j:=by
   rcases Nat.lt_trichotomy n j with h|h|h
   ·have:=h5 n om h
    rw [hb]at this;cases this
   ·exact h
   ·have:=hl j h
    rw [zeF c color 6 om hc j om,h4]at this;cases this
  rw [h6]
theorem U_ne(x:BitVec 64):(U x !=0)=decide (x≠0#64):=by
 rw [bne,U_zero]
 by_cases h:x=0#64<;>simp [h]
end
section
open Go.RowKit Go.Sort
theorem on_eq'(c:Nat→Int)(s color:Int)(b:Bool)(w:World)(hc:BdOk c)(hT:Tb w)(h:K.on c s color=b):
  cB 142 #[.agg (posC c),.int .i64 s,.int .u8 color] w (.bool b):=by
 rw [←h];exact zh4 c s color w hc hT
theorem zp{c:Nat→Int}(h:PosOk c){i:Nat}(hi:i<88)(hk:pk i= .u8):0≤c i∧c i≤255:=by
 have:=h i hi
 rw [hk]at this
 exact bounds_u8 this
theorem zw{c:Nat→Int}(h:PosOk c):BdOk c:=fun s hs=>zp h om (zk hs)
theorem zL{K:Act→Prop}{a:Act}{o:Oper}{w:World}(x:Operand)(ho:o.op= .load 31 x)
  (h:∃(g:Nat) (c:Nat→Int),a.eval x= .pointer (some ⟨g,0,none⟩)∧PosAt w g c∧K (a.put o.dst (.agg (posC c)))):o.quiet prog a (fun w'=>∃p:Regrown,w'=grow (redrawn w p.d) p.os) K:=by
 obtain⟨g,c,hx,hp,hk⟩:=h
 exact zu x ho c ⟨g,_,_,hx,fun w' ⟨p,e⟩=>by rw [e,zG _ _ _ _ hp.lt];exact hp.heap⟩ hk
theorem zaH{w:World}{d:Nat}{os:Array Obj}(h:Tb w):Tb (grow (redrawn w d) os):=zi h (below_regrown w d os)
def md(s:Int):Nat:=(s % 64).toNat
theorem zhq(x:BitVec 64)(b:Nat)(hb:b<64):(U (bAnd x (B.one (b:Int))) !=0)=bit x b:=by
 rw [U_ne,Bool.eq_iff_iff,decide_eq_true_eq]
 constructor
 ·intro h
  obtain⟨j,hj,hbj⟩:=ziC h
  rw [zav,zaP b j hb]at hbj
  simp at hbj
  rw [←hbj.2];exact hbj.1
 ·intro h e
  have:=congrArg (fun y=>bit y b) e
  simp only [zav,zac,zaP b b hb,h]at this
  simp at this
def bv1(b:Bool):Int:=if b then 1 else 0
theorem zgB(x:BitVec 64)(k n:Nat):bit (bShr x k) n=bit x (k+n):=by unfold bit bShr;rw [BitVec.getLsbD_ushiftRight]
@[go_sem] theorem and_one (x : BitVec 64) : bits .and .u64 (U x) 1 = bv1 (bit x 0):=by
 have h:=zeK x 1#64
 have e:U (1#64)=1:=rfl
 rw [e]at h
 rw [h]
 unfold U bv1 bAnd
 rw [bit_test,BitVec.toNat_and]
 have:(1#64).toNat=1:=rfl
 rw [this,Nat.and_one_is_mod,Nat.testBit_zero]
 rcases Nat.mod_two_eq_zero_or_one x.toNat with h|h<;>rw [h]<;>rfl
end
section
open Go.RowKit Go.Sort
attribute [local go_sem] Oper.semAt_some
theorem zam(w:World):cB 199 #[] w (.agg #[.int .i64 6,.int .i64 5,.int .i64 2,.int .i64 3]):=by
 go_enter func199,ntmps199
 go_wp2
 have hR:=RowAt.new w #[.int .i64 6,.int .i64 5,.int .i64 2,.int .i64 3] 237
 exact bodyPost_ret (v:= .agg #[.int .i64 6,.int .i64 5,.int .i64 2,.int .i64 3]) (results_cell_row results199 _ _ w.heap.size 237 _ (0,0) _ rfl hR.heap underlying237 rfl kr) rfl ⟨rfl,(Below.refl _ _).alloc (Nat.le_refl _) _⟩
theorem zA(color:Int)(w:World)(h:color=0∨color=1):cR 194 #[.int .u8 color] w (.int .i64 (56*color)) fun w'=>w=w':=by
 rcases h with rfl|rfl
 all_goals
  go_enter func194,ntmps194
  go_wp2
  go_ret
  exact⟨rfl,rfl⟩
namespace T
def sq(x:Nat):Fin 64:=⟨x % 64,Nat.mod_lt _ dc⟩
theorem sq_val(x:Nat)(h:x<64):(sq x).val=x:=Nat.mod_eq_of_lt h
def seg(a b:Nat):List (Fin 64):=(List.range (max a b-min a b+1)).map fun i=>sq (i+min a b)
def upTo(a b n:Nat):List (Fin 64):=(List.range n).map fun i=>sq (i+min a b)
theorem upTo_succ(a b n:Nat):upTo a b (n+1)=upTo a b n++[sq (n+min a b)]:=by simp [upTo,List.range_succ]
theorem upTo_len(a b n:Nat):(upTo a b n).length=n:=by simp [upTo]
theorem upTo_prefix(a b n:Nat)(h:n≤max a b-min a b+1):upTo a b n<+:seg a b:=by
 refine⟨((List.range (max a b-min a b+1)).drop n).map fun i=>sq (i+min a b),?_⟩
 unfold upTo seg
 rw [←List.map_append]
 congr 1
 have:List.range n=(List.range (max a b-min a b+1)).take n:=by rw [List.take_range,Nat.min_eq_left h]
 rw [this,List.take_append_drop]
end T
theorem zbp(n:Nat)(a b:Nat)(w:World):CallsIn Fence.wide n prog 340 #[.int .i64 (a:Int),.int .i64 (b:Int)] w fun e w'=>e= .returned (.func (.func 365) #[] #[.pointer (some ⟨w.heap.size,0,none⟩),.pointer (some ⟨w.heap.size+1,0,none⟩)])∧w'=(w.alloc (.cells #[.int .i64 (a:Int)] 3)).alloc (.cells #[.int .i64 (b:Int)] 3):=by
 refine callsIn_wide.2 ?_
 go_enter func340,ntmps340
 go_wp2
 go_ret
 exact⟨by simp,rfl⟩
theorem zhk(n l Ba Bb n₀ a b:Nat)(J Jx:List (Fin 64)→World→Prop)(ha:a<64)(hb:b<64)
  (hY:∀(pre:List (Fin 64)) (x:Fin 64) W,J pre W→pre.length<(T.seg a b).length→YieldAt Fence.wide (n-1) prog l #[.int .i64 ((x.val:Nat):Int)] W fun e W'=>
   (e= .returned (.bool true)∧J (pre++[x]) W'∧Below n₀ W W')∨(e= .returned (.bool false)∧Jx (pre++[x]) W'))
  (W:World) (hBa:Ba<n₀) (hBb:Bb<n₀) (ca:W.cell? ⟨Ba,0,none⟩=some (.int .i64 (a:Int))) (cb:W.cell? ⟨Bb,0,none⟩=some (.int .i64 (b:Int))) (h0:J [] W):
  CallsIn Fence.wide n prog 365 #[.func (.yield l) #[] #[],.pointer (some ⟨Ba,0,none⟩),.pointer (some ⟨Bb,0,none⟩)] W fun e W'=>(∃v,e= .returned v)∧
   ((∃ys,ys=T.seg a b∧J ys W')∨(∃pre,pre<+:T.seg a b∧Jx pre W')):=by
 refine callsIn_of_wp func365 rfl trivial ?_ rfl
 simp only [ntmps365,List.size_toArray,List.length_cons,List.length_nil,Nat.reduceAdd,Nat.reduceSub,Array.replicate_succ,Array.replicate_zero,List.push_toArray,List.append_toArray,List.nil_append,List.cons_append]
 obtain⟨lo,hlo⟩:∃lo:Nat,min a b=lo:=⟨_,rfl⟩
 obtain⟨hi,hhi⟩:∃hi:Nat,max a b=hi:=⟨_,rfl⟩
 have hlo':min (a:Int) (b:Int)=(lo:Int):=by omega
 have hhi':max (a:Int) (b:Int)=(hi:Int):=by omega
 have hlh:lo≤hi∧hi<64:=by omega
 have hlen:(T.seg a b).length=hi-lo+1:=by unfold T.seg;rw [hlo,hhi];simp
 have hup:∀m,T.upTo a b (m+1)=T.upTo a b m++[T.sq (m+lo)]:=fun m=>by rw [T.upTo_succ,hlo]
 have hsg:T.seg a b=T.upTo a b (hi-lo+1):=by unfold T.seg T.upTo;rw [hlo,hhi]
 have hpf:∀m,m≤hi-lo+1→T.upTo a b m<+:T.seg a b:=fun m hm=>T.upTo_prefix a b m (by rw [hlo,hhi];exact hm)
 rw [hlen]at hY
 have HY:=hid hY
 have Hup:=hid hup
 have Hsg:=hid hsg
 have Hpf:=hid hpf
 clear hY hup hsg hpf hlen hlo hhi
 gi_wp2
 gi_loopw [4] (fun v wr=>∃m x:Nat,m≤hi-lo+1∧v= .int .i64 (x:Int)∧x=m+lo∧J (T.upTo a b m) wr∧wr.cell? ⟨Ba,0,none⟩=some (.int .i64 (a:Int))∧wr.cell? ⟨Bb,0,none⟩=some (.int .i64 (b:Int))) (fun v _=>hi+1-(intOf v).toNat)
 case atStart=>exact⟨0,lo,by omega,rfl,by rw [Nat.zero_add],h0,ca,cb⟩
 case round=>
  obtain⟨m,x,hm,rfl,hx,hJ,ca,cb⟩:=hrel
  by_cases hlt:m<hi-lo+1
  ·obtain⟨fn,tmps,assign,body,hy,hR⟩:=HY (T.upTo a b m) (T.sq x) wr hJ (by rw [T.upTo_len];exact hlt)
   rw [T.sq_val x om]at hy
   have h1:(x:Int)≤(hi:Int):=by omega
   have Hx:=hid hx
   clear hx
   gi_wp2
   refine⟨fun h=>by simp [Fence.wide]at h,hR.mono ?_⟩
   rintro e W3 (⟨rfl,hJ3,hk3⟩|⟨rfl,hJx3⟩)
   ·have ca3:=(hk3.cell (p:=⟨Ba,0,none⟩) hBa).trans ca
    have cb3:=(hk3.cell (p:=⟨Bb,0,none⟩) hBb).trans cb
    gi_wp2
    go_roundw
    case rel=>exact⟨m+1,x+1,by omega,by go_num,by have:=Hx.out;omega,by rw [Hup.out,←Hx.out];exact hJ3,ca3,cb3⟩
    case measure=>simp [intOf];have:=Hx.out;omega
   ·gi_wp2
    refine bodyPost_ret (results_none rfl _ _ _) rfl ?_
    exact⟨⟨_,rfl⟩,.inr ⟨T.upTo a b m++[T.sq x],by rw [Hx.out,←Hup.out];exact Hpf (m+1) om,hJx3⟩⟩
  ·have hme:m=hi-lo+1:=by omega
   rw [hme,←Hsg.out]at hJ
   have h1:¬((x:Int)≤(hi:Int)):=by omega
   gi_wp2
   go_end0
   exact⟨⟨_,rfl⟩,.inl hJ⟩
theorem zcr(n Ba Bb n₀ a b:Nat)(ha:a<64)(hb:b<64)(w:World)(hBa:Ba<n₀)(hBb:Bb<n₀)(hn₀:n₀≤w.heap.size)
  (ca:w.cell? ⟨Ba,0,none⟩=some (.int .i64 (a:Int))) (cb:w.cell? ⟨Bb,0,none⟩=some (.int .i64 (b:Int))):
  SeqStopsK Fence.wide n prog 365 #[.pointer (some ⟨Ba,0,none⟩),.pointer (some ⟨Bb,0,none⟩)] (fun x:Fin 64=> #[Value.int .i64 ((x.val:Nat):Int)]) (Below n₀) (fun ys=>ys=T.seg a b) (fun pre=>pre<+:T.seg a b) (T.seg a b).length w:=fun l J Jx W hW _ _ hY h0=>
 zhk n l Ba Bb n₀ a b J Jx ha hb hY W hBa hBb ((hW.cell (p:=⟨Ba,0,none⟩) (by show Ba<_;omega)).trans ca) ((hW.cell (p:=⟨Bb,0,none⟩) (by show Bb<_;omega)).trans cb) h0
theorem zaj(a b Bm:Nat)(is:Nat→Bool)(w:World)(ha:a<64)(hb:b<64)
  (hok:∀(s:Nat),s<64→∀W,Below w.heap.size w W→cB 277 #[.int .i64 (s:Int),.pointer (some ⟨Bm,0,none⟩)] W (.bool (is s))):
  cB 279 #[.int .i64 (a:Int),.int .i64 (b:Int),.func (.func 277) #[] #[.pointer (some ⟨Bm,0,none⟩)]] w (.bool ((T.seg a b).all fun x=>is x.val)):=by
 have Hok:=hid hok
 clear hok
 refine(callsIn_wide (n:=6)).1 ?_
 refine callsIn_of_wp_marks func279 rfl trivial ?_ rfl
 simp only [ntmps279,List.size_toArray,List.length_cons,List.length_nil,Nat.reduceAdd,Nat.reduceSub,Array.replicate_succ,Array.replicate_zero,List.push_toArray,List.append_toArray,List.nil_append,List.cons_append]
 gi_wp2_with (first
  |(refine⟨trivial,?_⟩;gi_at_call 340;refine(zbp _ a b _).mono ?_;rintro e w' ⟨rfl,rfl⟩)
  |(gi_at_call 340;refine(zbp _ a b _).mono ?_;rintro e w' ⟨rfl,rfl⟩))
 have bI:=(((Boxed.new w 183 (.func (.func 277) #[] #[.pointer (some ⟨Bm,0,none⟩)])).alloc (.cells #[.bool false] 4)).alloc (.cells #[.int .i64 (a:Int)] 3)).alloc (.cells #[.int .i64 (b:Int)] 3)
 have bR:=((Boxed.new (w.alloc (.cells #[.func (.func 277) #[] #[.pointer (some ⟨Bm,0,none⟩)]] 183)) 4 (.bool false)).alloc (.cells #[.int .i64 (a:Int)] 3)).alloc (.cells #[.int .i64 (b:Int)] 3)
 have bA:=(Boxed.new ((w.alloc (.cells #[.func (.func 277) #[] #[.pointer (some ⟨Bm,0,none⟩)]] 183)).alloc (.cells #[.bool false] 4)) 3 (.int .i64 (a:Int))).alloc (.cells #[.int .i64 (b:Int)] 3)
 have bB:=Boxed.new (((w.alloc (.cells #[.func (.func 277) #[] #[.pointer (some ⟨Bm,0,none⟩)]] 183)).alloc (.cells #[.bool false] 4)).alloc (.cells #[.int .i64 (a:Int)] 3)) 3 (.int .i64 (b:Int))
 simp only [World.size_alloc]at bR bA bB
 have hB0:=(((((Below.refl w.heap.size w).alloc (Nat.le_refl _) (.cells #[.func (.func 277) #[] #[.pointer (some ⟨Bm,0,none⟩)]] 183)).alloc sp (.cells #[.bool false] 4)).alloc (by simp;omega) (.cells #[.int .i64 (a:Int)] 3)).alloc (by simp;omega) (.cells #[.int .i64 (b:Int)] 3))
 have hsz:((((w.alloc (.cells #[.func (.func 277) #[] #[.pointer (some ⟨Bm,0,none⟩)]] 183)).alloc (.cells #[.bool false] 4)).alloc (.cells #[.int .i64 (a:Int)] 3)).alloc (.cells #[.int .i64 (b:Int)] 3)).heap.size=w.heap.size+4:=by simp
 obtain⟨W0,hW0⟩:∃W0,(((w.alloc (.cells #[.func (.func 277) #[] #[.pointer (some ⟨Bm,0,none⟩)]] 183)).alloc (.cells #[.bool false] 4)).alloc (.cells #[.int .i64 (a:Int)] 3)).alloc (.cells #[.int .i64 (b:Int)] 3)=W0:=⟨_,rfl⟩
 rw [hW0]at bI bR bA bB hB0 hsz⊢
 clear hW0
 refine wpIn_rangeFunc_ownG rfl dc (gf:=365) (lb:= #[.pointer (some ⟨w.heap.size+1+1,0,none⟩),.pointer (some ⟨w.heap.size+1+1+1,0,none⟩)]) rfl trivial (enters_of func365 kr rfl)
  (zcr _ (w.heap.size+1+1) (w.heap.size+1+1+1) W0.heap.size a b ha hb W0 om om (Nat.le_refl _) bA.cell bB.cell) belowK_t (belowK_b om) (Below.refl _ _) (fun _=>rfl)
  (fun pre W=>(∀x∈pre,is x.val=true)∧Below W0.heap.size W0 W)
  (fun c pre W=>((c= .ret∧∃x∈pre,is x.val=false)∧Boxed W (w.heap.size+1) 4 (.bool false))∧Below w.heap.size w W)
  (OwnFrom.and (ownFrom_pure _ _) (ownFrom_below (Nat.le_refl _) (Nat.le_refl _)))
  (fun c=>OwnFrom.and (OwnFrom.and (ownFrom_pure _ _) (Own.from (boxed_own _ _ _) _)) (ownFrom_below (Nat.le_refl _) om))
  ⟨by simp,Below.refl _ _⟩
  (fun x=>{tmps:= #[.int .i64 (a:Int),.int .i64 (b:Int),.func (.func 277) #[] #[.pointer (some ⟨Bm,0,none⟩)],undef,undef,.pointer (some ⟨w.heap.size,0,none⟩),.pointer (some ⟨w.heap.size+1,0,none⟩),.int .i64 ((x.val:Nat):Int),.int .i64 (a:Int),.int .i64 (b:Int),.func (.func 365) #[] #[.pointer (some ⟨w.heap.size+1+1,0,none⟩),.pointer (some ⟨w.heap.size+1+1+1,0,none⟩)],.int .i64 ((x.val:Nat):Int),undef,undef,undef,undef],defers:=[]})
  ?assign ?body ?done ?stop
 case assign=>
  intro l x W K hK
  gi_wp2
  exact hK
 case body=>
  rintro l pre x W ⟨hall,hBW⟩ hlt
  have hzW:=hBW.size
  have hB1:Below w.heap.size w W:=hB0.trans (hBW.mono om)
  have bI1:Boxed W w.heap.size _ _:=(hBW.block _ bI.lt).trans bI
  have bR1:Boxed W (w.heap.size+1) _ _:=(hBW.block _ bR.lt).trans bR
  have cI:=bI1.cell
  have cR:=bR1.cell
  have fR:=bR1.frozen
  have hx:=x.isLt
  have Hx:=hid (Hok x.val hx W hB1)
  gi_wp2
  refine⟨trivial,(CallsIn.inRound l (callsIn_wide.2 Hx)).mono ?_⟩
  rintro e W2 ⟨rfl,hb2⟩
  have hb3:Below W0.heap.size W W2:=hb2.mono hzW
  have bR2:Boxed W2 (w.heap.size+1) _ _:=(hb2.block _ bR1.lt).trans bR1
  have cR2:=bR2.cell
  have fR2:=bR2.frozen
  have hB2:Below w.heap.size w W2:=za hB1 hb2
  cases hi:is x.val
  ·gi_wp2
   exact⟨(K.KeepsFrom.of_below hb2).trans ((KeepsOthers.setCell _ _ _).from _),⟨⟨rfl,x,by simp,hi⟩,bR2.set _⟩,hB2.setCell (p:=⟨w.heap.size+1,0,none⟩) sp _⟩
  ·gi_wp2
   refine⟨K.KeepsFrom.of_below hb2,hb3,fun y hy=> ?_,hBW.trans hb3⟩
   rcases List.mem_append.1 hy with h|h
   ·exact hall y h
   ·rw [List.mem_singleton.1 h];exact hi
 case done=>
  rintro D ys W hD rfl ⟨hall,hBW⟩ hK
  have hzW:=hBW.size
  have hB1:Below w.heap.size w W:=hB0.trans (hBW.mono om)
  have bR1:Boxed W (w.heap.size+1) _ _:=(hBW.block _ bR.lt).trans bR
  have cR:=bR1.cell
  have fR:=bR1.frozen
  gi_wp2
  have hK':=(KeepsOthers.setCell W ⟨w.heap.size+1,0,none⟩ (.bool true)).same D _ hK rfl
  refine⟨by simp,.inl ⟨_,_,rfl,run_takeDeferred hK',?_⟩⟩
  have hc5:=cell_kept (bR1.set (.bool true)).cell (grownBy_putObj' _ D (.deferred none)) (fun r e=>by cases e;exact⟨_,hK',rfl⟩)
  refine⟨.bool true,?_,?_,(hB1.setCell (p:=⟨w.heap.size+1,0,none⟩) sp _).trans (belowK_b (w:=w) (Nat.le_refl _) _ D _ _ om hK' rfl rfl)⟩
  ·simp [results,results279,go_sem,hc5]
  ·have:((T.seg a b).all fun x=>is x.val)=true:=by
    rw [List.all_eq_true];exact hall
   rw [this]
 case stop=>
  rintro D c pre W hD hpre ⟨⟨⟨rfl,x,hx,hi⟩,bR1⟩,hB1⟩ hK
  gi_wp2
  refine⟨by simp,.inl ⟨_,_,rfl,run_takeDeferred hK,?_⟩⟩
  have hc5:=cell_kept bR1.cell (grownBy_putObj' _ D (.deferred none)) (fun r e=>by cases e;exact⟨_,hK,rfl⟩)
  refine⟨.bool false,?_,?_,hB1.trans (belowK_b (w:=w) (Nat.le_refl _) W D _ _ om hK rfl rfl)⟩
  ·simp [results,results279,go_sem,hc5]
  ·have:((T.seg a b).all fun x=>is x.val)=false:=by
    rw [List.all_eq_false];exact⟨x,hpre.subset hx,by rw [hi];simp⟩
   rw [this]
theorem zb7(a b Bp Bo Bq:Nat)(is:Nat→Bool)(w:World)(ha:a<64)(hb:b<64)
  (hok:∀(s:Nat),s<64→∀W,Below w.heap.size w W→cB 278 #[.int .i64 (s:Int),.pointer (some ⟨Bp,0,none⟩),.pointer (some ⟨Bo,0,none⟩),.pointer (some ⟨Bq,0,none⟩)] W (.bool (is s))):
  cB 279 #[.int .i64 (a:Int),.int .i64 (b:Int),.func (.func 278) #[] #[.pointer (some ⟨Bp,0,none⟩),.pointer (some ⟨Bo,0,none⟩),.pointer (some ⟨Bq,0,none⟩)]] w (.bool ((T.seg a b).all fun x=>is x.val)):=by
 have Hok:=hid hok
 clear hok
 refine(callsIn_wide (n:=6)).1 ?_
 refine callsIn_of_wp_marks func279 rfl trivial ?_ rfl
 simp only [ntmps279,List.size_toArray,List.length_cons,List.length_nil,Nat.reduceAdd,Nat.reduceSub,Array.replicate_succ,Array.replicate_zero,List.push_toArray,List.append_toArray,List.nil_append,List.cons_append]
 gi_wp2_with (first
  |(refine⟨trivial,?_⟩;gi_at_call 340;refine(zbp _ a b _).mono ?_;rintro e w' ⟨rfl,rfl⟩)
  |(gi_at_call 340;refine(zbp _ a b _).mono ?_;rintro e w' ⟨rfl,rfl⟩))
 have bI:=(((Boxed.new w 183 (.func (.func 278) #[] #[.pointer (some ⟨Bp,0,none⟩),.pointer (some ⟨Bo,0,none⟩),.pointer (some ⟨Bq,0,none⟩)])).alloc (.cells #[.bool false] 4)).alloc (.cells #[.int .i64 (a:Int)] 3)).alloc (.cells #[.int .i64 (b:Int)] 3)
 have bR:=((Boxed.new (w.alloc (.cells #[.func (.func 278) #[] #[.pointer (some ⟨Bp,0,none⟩),.pointer (some ⟨Bo,0,none⟩),.pointer (some ⟨Bq,0,none⟩)]] 183)) 4 (.bool false)).alloc (.cells #[.int .i64 (a:Int)] 3)).alloc (.cells #[.int .i64 (b:Int)] 3)
 have bA:=(Boxed.new ((w.alloc (.cells #[.func (.func 278) #[] #[.pointer (some ⟨Bp,0,none⟩),.pointer (some ⟨Bo,0,none⟩),.pointer (some ⟨Bq,0,none⟩)]] 183)).alloc (.cells #[.bool false] 4)) 3 (.int .i64 (a:Int))).alloc (.cells #[.int .i64 (b:Int)] 3)
 have bB:=Boxed.new (((w.alloc (.cells #[.func (.func 278) #[] #[.pointer (some ⟨Bp,0,none⟩),.pointer (some ⟨Bo,0,none⟩),.pointer (some ⟨Bq,0,none⟩)]] 183)).alloc (.cells #[.bool false] 4)).alloc (.cells #[.int .i64 (a:Int)] 3)) 3 (.int .i64 (b:Int))
 simp only [World.size_alloc]at bR bA bB
 have hB0:=(((((Below.refl w.heap.size w).alloc (Nat.le_refl _) (.cells #[.func (.func 278) #[] #[.pointer (some ⟨Bp,0,none⟩),.pointer (some ⟨Bo,0,none⟩),.pointer (some ⟨Bq,0,none⟩)]] 183)).alloc sp (.cells #[.bool false] 4)).alloc (by simp;omega) (.cells #[.int .i64 (a:Int)] 3)).alloc (by simp;omega) (.cells #[.int .i64 (b:Int)] 3))
 have hsz:((((w.alloc (.cells #[.func (.func 278) #[] #[.pointer (some ⟨Bp,0,none⟩),.pointer (some ⟨Bo,0,none⟩),.pointer (some ⟨Bq,0,none⟩)]] 183)).alloc (.cells #[.bool false] 4)).alloc (.cells #[.int .i64 (a:Int)] 3)).alloc (.cells #[.int .i64 (b:Int)] 3)).heap.size=w.heap.size+4:=by simp
 obtain⟨W0,hW0⟩:∃W0,(((w.alloc (.cells #[.func (.func 278) #[] #[.pointer (some ⟨Bp,0,none⟩),.pointer (some ⟨Bo,0,none⟩),.pointer (some ⟨Bq,0,none⟩)]] 183)).alloc (.cells #[.bool false] 4)).alloc (.cells #[.int .i64 (a:Int)] 3)).alloc (.cells #[.int .i64 (b:Int)] 3)=W0:=⟨_,rfl⟩
 rw [hW0]at bI bR bA bB hB0 hsz⊢
 clear hW0
 refine wpIn_rangeFunc_ownG rfl dc (gf:=365) (lb:= #[.pointer (some ⟨w.heap.size+1+1,0,none⟩),.pointer (some ⟨w.heap.size+1+1+1,0,none⟩)]) rfl trivial (enters_of func365 kr rfl)
  (zcr _ (w.heap.size+1+1) (w.heap.size+1+1+1) W0.heap.size a b ha hb W0 om om (Nat.le_refl _) bA.cell bB.cell) belowK_t (belowK_b om) (Below.refl _ _) (fun _=>rfl)
  (fun pre W=>(∀x∈pre,is x.val=true)∧Below W0.heap.size W0 W)
  (fun c pre W=>((c= .ret∧∃x∈pre,is x.val=false)∧Boxed W (w.heap.size+1) 4 (.bool false))∧Below w.heap.size w W)
  (OwnFrom.and (ownFrom_pure _ _) (ownFrom_below (Nat.le_refl _) (Nat.le_refl _)))
  (fun c=>OwnFrom.and (OwnFrom.and (ownFrom_pure _ _) (Own.from (boxed_own _ _ _) _)) (ownFrom_below (Nat.le_refl _) om))
  ⟨by simp,Below.refl _ _⟩
  (fun x=>{tmps:= #[.int .i64 (a:Int),.int .i64 (b:Int),.func (.func 278) #[] #[.pointer (some ⟨Bp,0,none⟩),.pointer (some ⟨Bo,0,none⟩),.pointer (some ⟨Bq,0,none⟩)],undef,undef,.pointer (some ⟨w.heap.size,0,none⟩),.pointer (some ⟨w.heap.size+1,0,none⟩),.int .i64 ((x.val:Nat):Int),.int .i64 (a:Int),.int .i64 (b:Int),.func (.func 365) #[] #[.pointer (some ⟨w.heap.size+1+1,0,none⟩),.pointer (some ⟨w.heap.size+1+1+1,0,none⟩)],.int .i64 ((x.val:Nat):Int),undef,undef,undef,undef],defers:=[]})
  ?assign ?body ?done ?stop
 case assign=>
  intro l x W K hK
  gi_wp2
  exact hK
 case body=>
  rintro l pre x W ⟨hall,hBW⟩ hlt
  have hzW:=hBW.size
  have hB1:Below w.heap.size w W:=hB0.trans (hBW.mono om)
  have bI1:Boxed W w.heap.size _ _:=(hBW.block _ bI.lt).trans bI
  have bR1:Boxed W (w.heap.size+1) _ _:=(hBW.block _ bR.lt).trans bR
  have cI:=bI1.cell
  have cR:=bR1.cell
  have fR:=bR1.frozen
  have hx:=x.isLt
  have Hx:=hid (Hok x.val hx W hB1)
  gi_wp2
  refine⟨trivial,(CallsIn.inRound l (callsIn_wide.2 Hx)).mono ?_⟩
  rintro e W2 ⟨rfl,hb2⟩
  have hb3:Below W0.heap.size W W2:=hb2.mono hzW
  have bR2:Boxed W2 (w.heap.size+1) _ _:=(hb2.block _ bR1.lt).trans bR1
  have cR2:=bR2.cell
  have fR2:=bR2.frozen
  have hB2:Below w.heap.size w W2:=za hB1 hb2
  cases hi:is x.val
  ·gi_wp2
   exact⟨(K.KeepsFrom.of_below hb2).trans ((KeepsOthers.setCell _ _ _).from _),⟨⟨rfl,x,by simp,hi⟩,bR2.set _⟩,hB2.setCell (p:=⟨w.heap.size+1,0,none⟩) sp _⟩
  ·gi_wp2
   refine⟨K.KeepsFrom.of_below hb2,hb3,fun y hy=> ?_,hBW.trans hb3⟩
   rcases List.mem_append.1 hy with h|h
   ·exact hall y h
   ·rw [List.mem_singleton.1 h];exact hi
 case done=>
  rintro D ys W hD rfl ⟨hall,hBW⟩ hK
  have hzW:=hBW.size
  have hB1:Below w.heap.size w W:=hB0.trans (hBW.mono om)
  have bR1:Boxed W (w.heap.size+1) _ _:=(hBW.block _ bR.lt).trans bR
  have cR:=bR1.cell
  have fR:=bR1.frozen
  gi_wp2
  have hK':=(KeepsOthers.setCell W ⟨w.heap.size+1,0,none⟩ (.bool true)).same D _ hK rfl
  refine⟨by simp,.inl ⟨_,_,rfl,run_takeDeferred hK',?_⟩⟩
  have hc5:=cell_kept (bR1.set (.bool true)).cell (grownBy_putObj' _ D (.deferred none)) (fun r e=>by cases e;exact⟨_,hK',rfl⟩)
  refine⟨.bool true,?_,?_,(hB1.setCell (p:=⟨w.heap.size+1,0,none⟩) sp _).trans (belowK_b (w:=w) (Nat.le_refl _) _ D _ _ om hK' rfl rfl)⟩
  ·simp [results,results279,go_sem,hc5]
  ·have:((T.seg a b).all fun x=>is x.val)=true:=by
    rw [List.all_eq_true];exact hall
   rw [this]
 case stop=>
  rintro D c pre W hD hpre ⟨⟨⟨rfl,x,hx,hi⟩,bR1⟩,hB1⟩ hK
  gi_wp2
  refine⟨by simp,.inl ⟨_,_,rfl,run_takeDeferred hK,?_⟩⟩
  have hc5:=cell_kept bR1.cell (grownBy_putObj' _ D (.deferred none)) (fun r e=>by cases e;exact⟨_,hK,rfl⟩)
  refine⟨.bool false,?_,?_,hB1.trans (belowK_b (w:=w) (Nat.le_refl _) W D _ _ om hK rfl rfl)⟩
  ·simp [results,results279,go_sem,hc5]
  ·have:((T.seg a b).all fun x=>is x.val)=false:=by
    rw [List.all_eq_false];exact⟨x,hpre.subset hx,by rw [hi];simp⟩
   rw [this]
end
end Go.Proofs.YtbakeajgolhkgaaGreatDoor
