import Derived.Test.YtbakeajgolhkgaaGreatDoorZc
set_option maxRecDepth 100000
set_option maxHeartbeats 8000000
namespace Go.Proofs.YtbakeajgolhkgaaGreatDoor
open Go.Proofs.Tryz
open Go.RowKit Go.Sort
namespace D
def color(x:Int):Int:=x/8
def abs(n:Int):Int:=if n<0 then-n else n
def sign(n:Int):Int:=if n<0 then-1 else if n>0 then 1 else 0
def is(c:Nat→Int)(s:Nat)(color kind:Int):Bool:=P.kind (c (1+s))==kind&&D.color (c (1+s))==color
def beside(a b:Int):Bool:=decide (a≠b)&&(decide (abs (a/8-b/8)≤1)&&decide (abs (a % 8-b % 8)≤1))
def royal(v color:Int):Bool:=decide (v<9)&&(decide (color<2)&&(decide (v≠4)&&(decide (v≠7)||decide (color=1))))
theorem kind_of(x:Int)(h0:0≤x)(h1:x≤255):P.kind x=if x>15∨x % 8<1∨x % 8>6 then 0 else x % 8:=
 all8 (fun x=>P.kind x=if x>15∨x % 8<1∨x % 8>6 then 0 else x % 8) (by decide+kernel) x h0 h1
end D
theorem ziH{w:World}{b:Nat}{t:TypeId}{fr:Nat×Nat}{c:Nat→Int}(hg:w.heap[b]? =some (.cells (posC c) t fr))(s:Nat)(hs:s<64):w.cell? ⟨b,1+s,none⟩=some (.int .u8 (c (1+s))):=by
 simp only [World.cell?,hg];exact zbM c s hs
namespace D
def first(p:Nat→Bool):Nat→Nat→Int
 |_,0=> -1
 |k,n+1=>if p k then(k:Int)else first p (k+1) n
def find(c:Nat→Int)(color kind:Int):Int:=first (fun s=>is c s color kind) 0 64
end D
theorem tmod8(a:Nat):(a:Int).tmod 8=(a:Int) % 8:=Int.tmod_eq_emod_of_nonneg om
namespace D
theorem zeJ(p:Nat→Bool):∀n k,first p k n= -1∨∃j,j<k+n∧first p k n=(j:Int)
 |0,_=> .inl rfl
 |n+1,k=>by
  rw [first]
  split
  ·exact .inr ⟨k,by omega,rfl⟩
  ·rcases zeJ p n (k+1)with h|⟨j,hj,h⟩
   ·exact .inl h
   ·exact .inr ⟨j,by omega,h⟩
theorem find_bd(c:Nat→Int)(color kind:Int):find c color kind= -1∨∃j:Nat,j<64∧find c color kind=(j:Int):=by
 have:=zeJ (fun s=>is c s color kind) 64 0
 simpa [find]using this
def near(c:Nat→Int)(color:Int)(s:Int):Nat→Nat→Bool
 |_,0=>false
 |k,n+1=>(is c k (K.oc color) 6&&beside k s)||near c color s (k+1) n
def king(c:Nat→Int)(color:Int):Int:=
 if(!royal (c 0) color||decide (find c color 6<0))=true then-1
 else if(c 0==3&&near c color (find c color 6) 0 64)=true then-1 else find c color 6
end D
namespace D
def step(a b:Nat):Int:=8*sign ((b:Int)/8-(a:Int)/8)+sign ((b:Int) % 8-(a:Int) % 8)
structure Path (a b m:Nat) (q:Nat→Nat):Prop where
 start:q 0=a
 last:q m=b
 next:∀k,k<m→(q (k+1):Int)=q k+step a b
 bd:∀k,k≤m→q k<64
 ne:∀k,0<k→k<m→q k≠b
 pos:1≤m
def clear(c:Nat→Int)(q:Nat→Nat):Nat→Nat→Bool
 |_,0=>true
 |k,n+1=>P.kind (c (1+q k))==0&&clear c q (k+1) n
end D
namespace D
def up(a b:Nat):Int:=(b:Int)/8-(a:Int)/8
def aside(a b:Nat):Int:=abs ((b:Int) % 8-(a:Int) % 8)
def straight(a b:Nat):Bool:=(up a b==0) !=(aside a b==0)
def across(a b:Nat):Bool:=(abs (up a b)==aside a b)&&decide (0<aside a b)
def dist(a b:Nat):Nat:=(max (abs (up a b)) (aside a b)).toNat
def at'(a b k:Nat):Nat:=((a:Int)+k*step a b).toNat
def pathB(a b:Nat):Bool:=
 (at' a b 0==a)&&((at' a b (dist a b)==b)&&(((List.range (dist a b)).all fun k=>((at' a b (k+1):Nat):Int)==(at' a b k:Int)+step a b)&&(((List.range (dist a b+1)).all fun k=>decide (at' a b k<64))&&(((List.range (dist a b)).all fun k=>k==0||at' a b k !=b)&&decide (1≤dist a b)))))
theorem ziy{a b:Nat}(h:pathB a b=true):Path a b (dist a b) (at' a b):=by
 unfold pathB at h
 simp only [Bool.and_eq_true,beq_iff_eq,List.all_eq_true,List.mem_range,decide_eq_true_eq,Bool.or_eq_true,bne_iff_ne]at h
 obtain⟨h1,h2,h3,h4,h5,h6⟩:=h
 exact⟨h1,h2,h3,fun k hk=>h4 k om,fun k h0 hk=>(h5 k hk).resolve_left om,h6⟩
theorem lines:∀a b:Fin 64,(straight a.val b.val||across a.val b.val)=true→pathB a.val b.val=true:=by decide+kernel
theorem path(a b:Nat)(ha:a<64)(hb:b<64)(h:(straight a b||across a b)=true):Path a b (dist a b) (at' a b):=ziy (lines ⟨a,ha⟩ ⟨b,hb⟩ h)
def clr(c:Nat→Int)(a b:Nat):Bool:=clear c (at' a b) 1 (dist a b-1)
def hits(c:Nat→Int)(a b:Nat):Bool:=
 if P.kind (c (1+a))=1 then(if color (c (1+a))=0 then(up a b==1)&&(aside a b==1)else(up a b== -1)&&(aside a b==1))
 else if P.kind (c (1+a))=2 then((abs (up a b)==1)&&(aside a b==2))||((abs (up a b)==2)&&(aside a b==1))
 else if P.kind (c (1+a))=6 then beside a b
 else if P.kind (c (1+a))=4 then straight a b&&clr c a b
 else if P.kind (c (1+a))=3 then across a b&&clr c a b
 else if P.kind (c (1+a))=5 then(straight a b||across a b)&&clr c a b
 else false
end D
namespace D
end D
namespace D
def byTo(c:Nat→Int)(s:Nat)(color:Int):Nat→BitVec 64
 |0=>0#64
 |n+1=>if(P.kind (c (1+n)) !=0&&(D.color (c (1+n))==color&&hits c n s))=true then bOr (byTo c s color n) (B.one n)else byTo c s color n
end D
end Go.Proofs.YtbakeajgolhkgaaGreatDoor
