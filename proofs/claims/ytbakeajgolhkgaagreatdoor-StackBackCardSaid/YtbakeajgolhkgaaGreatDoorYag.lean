import Derived.Laws.Bits128
import Derived.Test.YtbakeajgolhkgaaGreatDoorYaf
import Derived.Test.YtbakeajgolhkgaaGreatDoorYae
import Derived.Test.YtbakeajgolhkgaaGreatDoorYad
set_option maxRecDepth 100000
set_option maxHeartbeats 8000000
open Go.Lib (hid)
namespace Go.Proofs.YtbakeajgolhkgaaGreatDoor
open Go.Proofs.Tryz
section
open Go.RowKit
def bNot(x:BitVec 64):BitVec 64:= ~~~x
namespace A
def bs(n:Int):BitVec 64:=BitVec.ofInt 64 n
def dropsK(c:Nat→Int)(t:Nat)(k:Nat):List Mv:=
 if c (66+6*t+k)=0 then []else(B.list (bAnd (bNot (S.all c)) (if k=1 then 0x00ffffffffffff00#64 else bNot 0#64))).map fun s=>(((s:Nat):Int),((s:Nat):Int),0,(k:Int),false)
def drops(c:Nat→Int):List Mv:=if c 78≤1∧c 0=2 then(List.range 5).flatMap fun n=>dropsK c (c 78).toNat (n+1)else []
def kind(c:Nat→Int)(m:Mv):Int:=if m.2.2.2.1≠0 then m.2.2.2.1 else P.kind (c (1+m.1.toNat))
def cellF(m:Mv):Nat:=1+m.1.toNat
def cellT(m:Mv):Nat:=1+m.2.1.toNat
def kg(c:Nat→Int)(m:Mv):Nat:=56*(c 78).toNat+(if m.1<m.2.1 then 6 else 2)
def rg(c:Nat→Int)(m:Mv):Nat:=56*(c 78).toNat+(if m.1<m.2.1 then 5 else 3)
def men(c:Nat→Int)(m:Mv)(t:Int):Nat→Int:=
 if m.2.2.2.2=true then upd (upd (upd (upd c (cellF m) 0) (cellT m) 0) (1+kg c m) (c (cellF m))) (1+rg c m) (c (cellT m))
 else if m.2.2.2.1≠0 then upd (take c (c 78) m.2.2.2.1) (cellT m) (P.make (c 78) m.2.2.2.1)
 else if m.2.2.1≠0 then upd (upd (upd (if 0≤t then upd c (1+t.toNat) 0 else c) (cellF m) 0) (cellT m) (c (cellF m))) (cellT m) (P.make (c 78) m.2.2.1)
 else upd (upd (if 0≤t then upd c (1+t.toNat) 0 else c) (cellF m) 0) (cellT m) (c (cellF m))
def mark(c:Nat→Int)(s:Int):Bool:=bit (bs (c 65)) s.toNat
def unmark(q:Nat→Int)(s:Int):Nat→Int:=upd q 65 (U (bAndn (bs (q 65)) (B.one s)))
def domark(q:Nat→Int)(s:Int):Nat→Int:=upd q 65 (U (bOr (bs (q 65)) (B.one s)))
def takenKind(c:Nat→Int)(t:Int):Int:=if mark c t=true∧c (1+t.toNat)≠0 then 1 else P.kind (c (1+t.toNat))
def pocketT(c q:Nat→Int)(t:Int):Nat→Int:=if 0≤t then unmark (add q (q 78) (takenKind c t)) t else q
def pocket(c q:Nat→Int)(m:Mv)(t:Int):Nat→Int:=
 if q 0≠2∨m.2.2.2.1≠0 then q
 else if m.2.2.2.2=true then(if mark c m.2.1=true then domark (unmark q m.2.1) (rg c m)else q)
 else if m.2.2.1≠0∨mark c m.1=true then domark (unmark (pocketT c q t) m.1) m.2.1 else unmark (pocketT c q t) m.1
def blown(q:Nat→Int)(s:Int):BitVec 64:=bOr (bAndn (bAndn (bAnd (R.king s) (S.all q)) (S.of q 0 1)) (S.of q 1 1)) (B.one s)
def wipe(q:Nat→Int):List Nat→Nat→Int
 |[]=>q
 |s::l=>wipe (upd q (1+s) 0) l
def blow(q:Nat→Int)(m:Mv)(t:Int):Nat→Int:=if q 0≠3∨t<0 then q else wipe q (B.list (blown q m.2.1))
def gone(q:Nat→Int)(m:Mv)(t:Int)(col side:Nat):Bool:=
 let f:=q (79+2*col+side)
 decide (0≤f)&&(decide (f≤7)&&(t==56*col+f||(m.2.2.2.1==0&&m.1==56*col+f)||decide (S.find q col 6<0)||(S.find q col 6/8 !=7*col)||(q (1+(56*col+f).toNat) !=P.make col 4)))
def rights0(c q:Nat→Int)(m:Mv):Nat→Int:=if kind c m=6∧m.2.2.2.1=0 then upd (upd q (79+2*(q 78).toNat) (-1)) (80+2*(q 78).toNat) (-1)else q
def rights1(q:Nat→Int)(m:Mv)(t:Int)(col side:Nat):Nat→Int:=if gone q m t col side=true then upd q (79+2*col+side) (-1)else q
def rights(c q:Nat→Int)(m:Mv)(t:Int):Nat→Int:=
 rights1 (rights1 (rights1 (rights1 (rights0 c q m) m t 0 0) m t 0 1) m t 1 0) m t 1 1
def passes(c q:Nat→Int)(m:Mv):Prop:=
 kind c m=1∧m.2.2.2.1=0∧(m.2.1-m.1=16∨m.1-m.2.1=16)∧(m.1/8=7*q 78+1∨m.1/8=7*q 78-1)∧bAnd (R.pawn (q 78) ((m.1+m.2.1)/2)) (S.of q (1-q 78) 1)≠0#64
instance (c q:Nat→Int) (m:Mv):Decidable (passes c q m):=by unfold passes;infer_instance
def pass(c q:Nat→Int)(m:Mv):Nat→Int:=if passes c (upd q 83 (-1)) m then upd (upd q 83 (-1)) 83 ((m.1+m.2.1)/2)else upd q 83 (-1)
def more(n:Int):Int:=if 10000≤n then n else n+1
def clocks(c q:Nat→Int)(m:Mv)(t:Int):Nat→Int:=
 let h:=upd q 86 (if kind c m=1∨0≤t then 0 else more (q 86))
 if q 78=1 then upd h 87 (more (q 87))else h
def turn0(q:Nat→Int):Nat→Int:=upd q 78 (1-q 78)
def turn(q:Nat→Int):Nat→Int:=
 if q 0=5∧q (84+(q 78).toNat)<3∧K.check (turn0 q) (1-q 78)=true then upd (turn0 q) (84+(q 78).toNat) (q (84+(q 78).toNat)+1)else turn0 q
def after(c:Nat→Int)(m:Mv)(t:Int):Nat→Int:=
 turn (clocks c (pass c (rights c (blow (pocket c (men c m t) m t) m t) m t) m) m t)
end A
end
section
open Go.RowKit Go.Sort
attribute [local go_sem] Oper.semAt_some
theorem A.kind_0(c:Nat→Int)(F:Nat)(g p:Int)(ca:Bool)(t:Int)(h:t=P.kind (c (1+F))):A.kind c ((F:Int),g,p,0,ca)=t:=by
 unfold A.kind;rw [if_neg sp,h];rfl
theorem zI(q c:Nat→Int)(F:Nat)(g p d:Int)(ca:Bool)(t:Int)(b:Nat)(w:World)(hM:A.MvAt w b q c ((F:Int),g,p,d,ca) t)(hF:F<64)(hc:BdOk c):
  cB 131 #[.pointer (some ⟨b,0,none⟩)] w (.int .u8 (A.kind c ((F:Int),g,p,d,ca))):=by
 have h3:w.cell? ⟨b,179,none⟩=some (.int .u8 d):=hM.atm 3 _ rfl
 have h0:w.cell? ⟨b,176,none⟩=some (.int .i8 (F:Int)):=hM.atm 0 _ rfl
 have hb:w.cell? ⟨b,89+F,none⟩=some (.int .u8 (c (1+F))):=by
  have:=hM.atc (1+F) om .u8 (zk hF)
  rwa [←Nat.add_assoc]at this
 by_cases hd:d=0
 ·have d1:decide (d=0)=true:=decide_eq_true hd
  have E:=hid (show A.kind c ((F:Int),g,p,d,ca)=P.kind (c (1+F)) by rw [hd];exact A.kind_0 c F g p ca _ rfl)
  obtain⟨x0,x1⟩:=hc F hF
  have i1:(F:Int)<64:=by omega
  go_enter func131,ntmps131
  go_wp2
  go_quiet ((go_at_call 122;exact zJ (zaF _ _ x0 x1)))
  go_wp2
  go_ret
  exact⟨ret_int E.symm,M.below_drew (Below.refl _ _) _⟩
 ·have d1:decide (d=0)=false:=decide_eq_false hd
  have E:=hid (show A.kind c ((F:Int),g,p,d,ca)=d by unfold A.kind;rw [if_pos hd])
  go_enter func131,ntmps131
  go_wp2
  go_ret
  exact⟨ret_int E.symm,Below.refl _ _⟩
theorem zP(n:Int)(w:World)(h0: -9223372036854775808≤n)(h1:n≤9223372036854775807):
  cR 135 #[.int .i64 n] w (.int .i64 (A.more n)) fun w'=>w=w':=by
 by_cases h:10000≤n
 ·have d1:decide (10000≤n)=true:=decide_eq_true h
  have E:=hid (show A.more n=n by unfold A.more;rw [if_pos h])
  go_enter func135,ntmps135
  go_wp2
  go_ret
  exact⟨ret_int E.symm,rfl⟩
 ·have d1:decide (10000≤n)=false:=decide_eq_false h
  have E:=hid (show A.more n=n+1 by unfold A.more;rw [if_neg h])
  have hw:IntKind.i64.wrap (n+1)=n+1:=by rw [IntKind.wrap_i64];omega
  go_enter func135,ntmps135
  go_wp2
  go_ret
  exact⟨ret_int E.symm,rfl⟩
theorem size_intA:(prog.info? 3).map (·.size)=some 1:=by kernel_rfl
namespace A
structure Step (b:Nat) (q' c:Nat→Int) (m:Mv) (t:Int) (w w':World):Prop where
 at':MvAt w' b q' c m t
 grown:w.grownBy w' (some b)
theorem put_grown{b:Nat}{w w1 w':World}(h:w.grownBy w1 (some b))(hP:Put b w1 w'):w.grownBy w' (some b):=h.trans hP.grown
theorem below_step{b:Nat}{w w1 w':World}(h:w.grownBy w1 (some b))(hb:Below w1.heap.size w1 w'):w.grownBy w' (some b):=h.trans (World.grownBy.but (below_grown hb) _)
theorem pos_i64{c:Nat→Int}(h:PosOk c){i:Nat}(hi:i<88)(hk:pk i= .i64): -9223372036854775808≤c i∧c i≤9223372036854775807:=by
 have:=h i hi
 rw [hk]at this
 exact bounds_i64 this
end A
theorem A.upd_same86(q:Nat→Int)(x y:Int):upd (upd q 86 x) 86 y=upd q 86 y:=by
 funext k
 unfold upd
 split<;>rfl
theorem zdX(q c:Nat→Int)(F:Nat)(g p d:Int)(ca:Bool)(t:Int)(b:Nat)(w:World)(hM:A.MvAt w b q c ((F:Int),g,p,d,ca) t)(hF:F<64)(hc:BdOk c)(hq:PosOk q)
  (k:Int) (hk:A.kind c ((F:Int),g,p,d,ca)=k) (d1:(k==1)=true) (d2:decide (0≤t)=true) (d3:(q 78==1)=true):
  cR 57 #[.pointer (some ⟨b,0,none⟩)] w (.tuple #[]) fun w'=>A.Step b (A.clocks c q ((F:Int),g,p,d,ca) t) c ((F:Int),g,p,d,ca) t w w':=by
 have b86:=A.pos_i64 hq (i:=86) dc rfl
 have b87:=A.pos_i64 hq (i:=87) dc rfl
 have h86:w.cell? ⟨b,86,none⟩=some (.int .i64 (q 86)):=hM.atq 86 dc .i64 rfl
 have E:=hid (show A.clocks c q ((F:Int),g,p,d,ca) t=(upd (upd q 86 0) 87 (A.more (q 87))) by
  unfold A.clocks
  rw [hk,if_pos (by simpa using d3),if_pos (by simp at d1 d2;omega)])
 have HK:Hid (∀W,A.MvAt W b (upd q 86 (A.more (q 86))) c ((F:Int),g,p,d,ca) t→cB 131 #[.pointer (some ⟨b,0,none⟩)] W (.int .u8 k)):=hid (fun W h=>hk▸zI _ c F g p d ca t b W h hF hc)
 have B86:=hid b86
 have B87:=hid b87
 have G0:=hid (World.grownBy.refl w (some b))
 clear hc hq hk b86 b87
 go_enter func57,ntmps57
 go_upto_region 1 with(first
  |(go_at_call 135;refine(zP _ _ B86.1 B86.2).mono ?_;rintro e w1 ⟨rfl,rfl⟩)
  |((with_reducible refine zg rfl _ _ _ rfl ?_);refine⟨b,86,q,c,_,t,_,.i64,rfl,rfl,by decide,rfl,size_intA,hM,?_⟩;intro W1 hP1 hM1))
 have G1:=hid (A.put_grown G0 hP1)
 clear h86 hM hP1 G0
 go_wp2_with (first
  |(go_at_call 131;refine(HK _ hM1).mono ?_;rintro e W2 ⟨rfl,hb2⟩;have hM2:=hM1.below hb2;have G2:=hid (A.below_step G1 hb2);have h181:=hM2.att;have h78:W2.cell? ⟨b,78,none⟩=some (.int .u8 (q 78)):=hM2.atq 78 dc .u8 rfl;have h87:W2.cell? ⟨b,87,none⟩=some (.int .i64 (q 87)):=hM2.atq 87 dc .i64 rfl;clear hM1 hb2)
  |((with_reducible refine zg rfl _ _ _ rfl ?_);refine⟨b,86,_,c,_,t,0,.i64,rfl,rfl,by decide,rfl,size_intA,hM2,?_⟩;intro W3 hP3 hM3;have G3:=hid (A.put_grown G2 hP3);have h78:W3.cell? ⟨b,78,none⟩=some (.int .u8 (q 78)):=hM3.atq 78 dc .u8 rfl;have h87:W3.cell? ⟨b,87,none⟩=some (.int .i64 (q 87)):=hM3.atq 87 dc .i64 rfl;clear hM2 hP3 h181)
  |(go_at_call 135;refine(zP _ _ B87.1 B87.2).mono ?_;rintro e w1 ⟨rfl,rfl⟩)
  |((with_reducible refine zg rfl _ _ _ rfl ?_);refine⟨b,87,_,c,_,t,_,.i64,rfl,rfl,by decide,rfl,size_intA,hM3,?_⟩;intro W4 hP4 hM4;have G4:=hid (A.put_grown G3 hP4)))
 refine bodyPost_end (results_none rfl _ _ _) rfl ?_
 exact⟨rfl,⟨by rw [E.out];rw [←A.upd_same86 q (A.more (q 86)) 0];exact hM4,G4⟩⟩
theorem zdV(q c:Nat→Int)(F:Nat)(g p d:Int)(ca:Bool)(t:Int)(b:Nat)(w:World)(hM:A.MvAt w b q c ((F:Int),g,p,d,ca) t)(hF:F<64)(hc:BdOk c)(hq:PosOk q)
  (k:Int) (hk:A.kind c ((F:Int),g,p,d,ca)=k) (d1:(k==1)=true) (d2:decide (0≤t)=true) (d3:(q 78==1)=false):
  cR 57 #[.pointer (some ⟨b,0,none⟩)] w (.tuple #[]) fun w'=>A.Step b (A.clocks c q ((F:Int),g,p,d,ca) t) c ((F:Int),g,p,d,ca) t w w':=by
 have b86:=A.pos_i64 hq (i:=86) dc rfl
 have b87:=A.pos_i64 hq (i:=87) dc rfl
 have h86:w.cell? ⟨b,86,none⟩=some (.int .i64 (q 86)):=hM.atq 86 dc .i64 rfl
 have E:=hid (show A.clocks c q ((F:Int),g,p,d,ca) t=(upd q 86 0) by
  unfold A.clocks
  rw [hk,if_neg (by simpa using d3),if_pos (by simp at d1 d2;omega)])
 have HK:Hid (∀W,A.MvAt W b (upd q 86 (A.more (q 86))) c ((F:Int),g,p,d,ca) t→cB 131 #[.pointer (some ⟨b,0,none⟩)] W (.int .u8 k)):=hid (fun W h=>hk▸zI _ c F g p d ca t b W h hF hc)
 have B86:=hid b86
 have B87:=hid b87
 have G0:=hid (World.grownBy.refl w (some b))
 clear hc hq hk b86 b87
 go_enter func57,ntmps57
 go_upto_region 1 with(first
  |(go_at_call 135;refine(zP _ _ B86.1 B86.2).mono ?_;rintro e w1 ⟨rfl,rfl⟩)
  |((with_reducible refine zg rfl _ _ _ rfl ?_);refine⟨b,86,q,c,_,t,_,.i64,rfl,rfl,by decide,rfl,size_intA,hM,?_⟩;intro W1 hP1 hM1))
 have G1:=hid (A.put_grown G0 hP1)
 clear h86 hM hP1 G0
 go_wp2_with (first
  |(go_at_call 131;refine(HK _ hM1).mono ?_;rintro e W2 ⟨rfl,hb2⟩;have hM2:=hM1.below hb2;have G2:=hid (A.below_step G1 hb2);have h181:=hM2.att;have h78:W2.cell? ⟨b,78,none⟩=some (.int .u8 (q 78)):=hM2.atq 78 dc .u8 rfl;have h87:W2.cell? ⟨b,87,none⟩=some (.int .i64 (q 87)):=hM2.atq 87 dc .i64 rfl;clear hM1 hb2)
  |((with_reducible refine zg rfl _ _ _ rfl ?_);refine⟨b,86,_,c,_,t,0,.i64,rfl,rfl,by decide,rfl,size_intA,hM2,?_⟩;intro W3 hP3 hM3;have G3:=hid (A.put_grown G2 hP3);have h78:W3.cell? ⟨b,78,none⟩=some (.int .u8 (q 78)):=hM3.atq 78 dc .u8 rfl;have h87:W3.cell? ⟨b,87,none⟩=some (.int .i64 (q 87)):=hM3.atq 87 dc .i64 rfl;clear hM2 hP3 h181)
  |(go_at_call 135;refine(zP _ _ B87.1 B87.2).mono ?_;rintro e w1 ⟨rfl,rfl⟩)
  |((with_reducible refine zg rfl _ _ _ rfl ?_);refine⟨b,87,_,c,_,t,_,.i64,rfl,rfl,by decide,rfl,size_intA,hM3,?_⟩;intro W4 hP4 hM4;have G4:=hid (A.put_grown G3 hP4)))
 refine bodyPost_end (results_none rfl _ _ _) rfl ?_
 exact⟨rfl,⟨by rw [E.out];rw [←A.upd_same86 q (A.more (q 86)) 0];exact hM3,G3⟩⟩
theorem zd7(q c:Nat→Int)(F:Nat)(g p d:Int)(ca:Bool)(t:Int)(b:Nat)(w:World)(hM:A.MvAt w b q c ((F:Int),g,p,d,ca) t)(hF:F<64)(hc:BdOk c)(hq:PosOk q)
  (k:Int) (hk:A.kind c ((F:Int),g,p,d,ca)=k) (d1:(k==1)=true) (_d2:decide (0≤t)=false) (d3:(q 78==1)=true):
  cR 57 #[.pointer (some ⟨b,0,none⟩)] w (.tuple #[]) fun w'=>A.Step b (A.clocks c q ((F:Int),g,p,d,ca) t) c ((F:Int),g,p,d,ca) t w w':=by
 have b86:=A.pos_i64 hq (i:=86) dc rfl
 have b87:=A.pos_i64 hq (i:=87) dc rfl
 have h86:w.cell? ⟨b,86,none⟩=some (.int .i64 (q 86)):=hM.atq 86 dc .i64 rfl
 have E:=hid (show A.clocks c q ((F:Int),g,p,d,ca) t=(upd (upd q 86 0) 87 (A.more (q 87))) by
  unfold A.clocks
  rw [hk,if_pos (by simpa using d3),if_pos (.inl (by simpa using d1))])
 have HK:Hid (∀W,A.MvAt W b (upd q 86 (A.more (q 86))) c ((F:Int),g,p,d,ca) t→cB 131 #[.pointer (some ⟨b,0,none⟩)] W (.int .u8 k)):=hid (fun W h=>hk▸zI _ c F g p d ca t b W h hF hc)
 have B86:=hid b86
 have B87:=hid b87
 have G0:=hid (World.grownBy.refl w (some b))
 clear hc hq hk b86 b87
 go_enter func57,ntmps57
 go_upto_region 1 with(first
  |(go_at_call 135;refine(zP _ _ B86.1 B86.2).mono ?_;rintro e w1 ⟨rfl,rfl⟩)
  |((with_reducible refine zg rfl _ _ _ rfl ?_);refine⟨b,86,q,c,_,t,_,.i64,rfl,rfl,by decide,rfl,size_intA,hM,?_⟩;intro W1 hP1 hM1))
 have G1:=hid (A.put_grown G0 hP1)
 clear h86 hM hP1 G0
 go_wp2_with (first
  |(go_at_call 131;refine(HK _ hM1).mono ?_;rintro e W2 ⟨rfl,hb2⟩;have hM2:=hM1.below hb2;have G2:=hid (A.below_step G1 hb2);have h181:=hM2.att;have h78:W2.cell? ⟨b,78,none⟩=some (.int .u8 (q 78)):=hM2.atq 78 dc .u8 rfl;have h87:W2.cell? ⟨b,87,none⟩=some (.int .i64 (q 87)):=hM2.atq 87 dc .i64 rfl;clear hM1 hb2)
  |((with_reducible refine zg rfl _ _ _ rfl ?_);refine⟨b,86,_,c,_,t,0,.i64,rfl,rfl,by decide,rfl,size_intA,hM2,?_⟩;intro W3 hP3 hM3;have G3:=hid (A.put_grown G2 hP3);have h78:W3.cell? ⟨b,78,none⟩=some (.int .u8 (q 78)):=hM3.atq 78 dc .u8 rfl;have h87:W3.cell? ⟨b,87,none⟩=some (.int .i64 (q 87)):=hM3.atq 87 dc .i64 rfl;clear hM2 hP3 h181)
  |(go_at_call 135;refine(zP _ _ B87.1 B87.2).mono ?_;rintro e w1 ⟨rfl,rfl⟩)
  |((with_reducible refine zg rfl _ _ _ rfl ?_);refine⟨b,87,_,c,_,t,_,.i64,rfl,rfl,by decide,rfl,size_intA,hM3,?_⟩;intro W4 hP4 hM4;have G4:=hid (A.put_grown G3 hP4)))
 refine bodyPost_end (results_none rfl _ _ _) rfl ?_
 exact⟨rfl,⟨by rw [E.out];rw [←A.upd_same86 q (A.more (q 86)) 0];exact hM4,G4⟩⟩
theorem zdW(q c:Nat→Int)(F:Nat)(g p d:Int)(ca:Bool)(t:Int)(b:Nat)(w:World)(hM:A.MvAt w b q c ((F:Int),g,p,d,ca) t)(hF:F<64)(hc:BdOk c)(hq:PosOk q)
  (k:Int) (hk:A.kind c ((F:Int),g,p,d,ca)=k) (d1:(k==1)=true) (_d2:decide (0≤t)=false) (d3:(q 78==1)=false):
  cR 57 #[.pointer (some ⟨b,0,none⟩)] w (.tuple #[]) fun w'=>A.Step b (A.clocks c q ((F:Int),g,p,d,ca) t) c ((F:Int),g,p,d,ca) t w w':=by
 have b86:=A.pos_i64 hq (i:=86) dc rfl
 have b87:=A.pos_i64 hq (i:=87) dc rfl
 have h86:w.cell? ⟨b,86,none⟩=some (.int .i64 (q 86)):=hM.atq 86 dc .i64 rfl
 have E:=hid (show A.clocks c q ((F:Int),g,p,d,ca) t=(upd q 86 0) by
  unfold A.clocks
  rw [hk,if_neg (by simpa using d3),if_pos (.inl (by simpa using d1))])
 have HK:Hid (∀W,A.MvAt W b (upd q 86 (A.more (q 86))) c ((F:Int),g,p,d,ca) t→cB 131 #[.pointer (some ⟨b,0,none⟩)] W (.int .u8 k)):=hid (fun W h=>hk▸zI _ c F g p d ca t b W h hF hc)
 have B86:=hid b86
 have B87:=hid b87
 have G0:=hid (World.grownBy.refl w (some b))
 clear hc hq hk b86 b87
 go_enter func57,ntmps57
 go_upto_region 1 with(first
  |(go_at_call 135;refine(zP _ _ B86.1 B86.2).mono ?_;rintro e w1 ⟨rfl,rfl⟩)
  |((with_reducible refine zg rfl _ _ _ rfl ?_);refine⟨b,86,q,c,_,t,_,.i64,rfl,rfl,by decide,rfl,size_intA,hM,?_⟩;intro W1 hP1 hM1))
 have G1:=hid (A.put_grown G0 hP1)
 clear h86 hM hP1 G0
 go_wp2_with (first
  |(go_at_call 131;refine(HK _ hM1).mono ?_;rintro e W2 ⟨rfl,hb2⟩;have hM2:=hM1.below hb2;have G2:=hid (A.below_step G1 hb2);have h181:=hM2.att;have h78:W2.cell? ⟨b,78,none⟩=some (.int .u8 (q 78)):=hM2.atq 78 dc .u8 rfl;have h87:W2.cell? ⟨b,87,none⟩=some (.int .i64 (q 87)):=hM2.atq 87 dc .i64 rfl;clear hM1 hb2)
  |((with_reducible refine zg rfl _ _ _ rfl ?_);refine⟨b,86,_,c,_,t,0,.i64,rfl,rfl,by decide,rfl,size_intA,hM2,?_⟩;intro W3 hP3 hM3;have G3:=hid (A.put_grown G2 hP3);have h78:W3.cell? ⟨b,78,none⟩=some (.int .u8 (q 78)):=hM3.atq 78 dc .u8 rfl;have h87:W3.cell? ⟨b,87,none⟩=some (.int .i64 (q 87)):=hM3.atq 87 dc .i64 rfl;clear hM2 hP3 h181)
  |(go_at_call 135;refine(zP _ _ B87.1 B87.2).mono ?_;rintro e w1 ⟨rfl,rfl⟩)
  |((with_reducible refine zg rfl _ _ _ rfl ?_);refine⟨b,87,_,c,_,t,_,.i64,rfl,rfl,by decide,rfl,size_intA,hM3,?_⟩;intro W4 hP4 hM4;have G4:=hid (A.put_grown G3 hP4)))
 refine bodyPost_end (results_none rfl _ _ _) rfl ?_
 exact⟨rfl,⟨by rw [E.out];rw [←A.upd_same86 q (A.more (q 86)) 0];exact hM3,G3⟩⟩
theorem zeb(q c:Nat→Int)(F:Nat)(g p d:Int)(ca:Bool)(t:Int)(b:Nat)(w:World)(hM:A.MvAt w b q c ((F:Int),g,p,d,ca) t)(hF:F<64)(hc:BdOk c)(hq:PosOk q)
  (k:Int) (hk:A.kind c ((F:Int),g,p,d,ca)=k) (d1:(k==1)=false) (d2:decide (0≤t)=true) (d3:(q 78==1)=true):
  cR 57 #[.pointer (some ⟨b,0,none⟩)] w (.tuple #[]) fun w'=>A.Step b (A.clocks c q ((F:Int),g,p,d,ca) t) c ((F:Int),g,p,d,ca) t w w':=by
 have b86:=A.pos_i64 hq (i:=86) dc rfl
 have b87:=A.pos_i64 hq (i:=87) dc rfl
 have h86:w.cell? ⟨b,86,none⟩=some (.int .i64 (q 86)):=hM.atq 86 dc .i64 rfl
 have E:=hid (show A.clocks c q ((F:Int),g,p,d,ca) t=(upd (upd q 86 0) 87 (A.more (q 87))) by
  unfold A.clocks
  rw [hk,if_pos (by simpa using d3),if_pos (by simp at d1 d2;omega)])
 have HK:Hid (∀W,A.MvAt W b (upd q 86 (A.more (q 86))) c ((F:Int),g,p,d,ca) t→cB 131 #[.pointer (some ⟨b,0,none⟩)] W (.int .u8 k)):=hid (fun W h=>hk▸zI _ c F g p d ca t b W h hF hc)
 have B86:=hid b86
 have B87:=hid b87
 have G0:=hid (World.grownBy.refl w (some b))
 clear hc hq hk b86 b87
 go_enter func57,ntmps57
 go_upto_region 1 with(first
  |(go_at_call 135;refine(zP _ _ B86.1 B86.2).mono ?_;rintro e w1 ⟨rfl,rfl⟩)
  |((with_reducible refine zg rfl _ _ _ rfl ?_);refine⟨b,86,q,c,_,t,_,.i64,rfl,rfl,by decide,rfl,size_intA,hM,?_⟩;intro W1 hP1 hM1))
 have G1:=hid (A.put_grown G0 hP1)
 clear h86 hM hP1 G0
 go_wp2_with (first
  |(go_at_call 131;refine(HK _ hM1).mono ?_;rintro e W2 ⟨rfl,hb2⟩;have hM2:=hM1.below hb2;have G2:=hid (A.below_step G1 hb2);have h181:=hM2.att;have h78:W2.cell? ⟨b,78,none⟩=some (.int .u8 (q 78)):=hM2.atq 78 dc .u8 rfl;have h87:W2.cell? ⟨b,87,none⟩=some (.int .i64 (q 87)):=hM2.atq 87 dc .i64 rfl;clear hM1 hb2)
  |((with_reducible refine zg rfl _ _ _ rfl ?_);refine⟨b,86,_,c,_,t,0,.i64,rfl,rfl,by decide,rfl,size_intA,hM2,?_⟩;intro W3 hP3 hM3;have G3:=hid (A.put_grown G2 hP3);have h78:W3.cell? ⟨b,78,none⟩=some (.int .u8 (q 78)):=hM3.atq 78 dc .u8 rfl;have h87:W3.cell? ⟨b,87,none⟩=some (.int .i64 (q 87)):=hM3.atq 87 dc .i64 rfl;clear hM2 hP3 h181)
  |(go_at_call 135;refine(zP _ _ B87.1 B87.2).mono ?_;rintro e w1 ⟨rfl,rfl⟩)
  |((with_reducible refine zg rfl _ _ _ rfl ?_);refine⟨b,87,_,c,_,t,_,.i64,rfl,rfl,by decide,rfl,size_intA,hM3,?_⟩;intro W4 hP4 hM4;have G4:=hid (A.put_grown G3 hP4)))
 refine bodyPost_end (results_none rfl _ _ _) rfl ?_
 exact⟨rfl,⟨by rw [E.out];rw [←A.upd_same86 q (A.more (q 86)) 0];exact hM4,G4⟩⟩
theorem zec(q c:Nat→Int)(F:Nat)(g p d:Int)(ca:Bool)(t:Int)(b:Nat)(w:World)(hM:A.MvAt w b q c ((F:Int),g,p,d,ca) t)(hF:F<64)(hc:BdOk c)(hq:PosOk q)
  (k:Int) (hk:A.kind c ((F:Int),g,p,d,ca)=k) (d1:(k==1)=false) (d2:decide (0≤t)=true) (d3:(q 78==1)=false):
  cR 57 #[.pointer (some ⟨b,0,none⟩)] w (.tuple #[]) fun w'=>A.Step b (A.clocks c q ((F:Int),g,p,d,ca) t) c ((F:Int),g,p,d,ca) t w w':=by
 have b86:=A.pos_i64 hq (i:=86) dc rfl
 have b87:=A.pos_i64 hq (i:=87) dc rfl
 have h86:w.cell? ⟨b,86,none⟩=some (.int .i64 (q 86)):=hM.atq 86 dc .i64 rfl
 have E:=hid (show A.clocks c q ((F:Int),g,p,d,ca) t=(upd q 86 0) by
  unfold A.clocks
  rw [hk,if_neg (by simpa using d3),if_pos (by simp at d1 d2;omega)])
 have HK:Hid (∀W,A.MvAt W b (upd q 86 (A.more (q 86))) c ((F:Int),g,p,d,ca) t→cB 131 #[.pointer (some ⟨b,0,none⟩)] W (.int .u8 k)):=hid (fun W h=>hk▸zI _ c F g p d ca t b W h hF hc)
 have B86:=hid b86
 have B87:=hid b87
 have G0:=hid (World.grownBy.refl w (some b))
 clear hc hq hk b86 b87
 go_enter func57,ntmps57
 go_upto_region 1 with(first
  |(go_at_call 135;refine(zP _ _ B86.1 B86.2).mono ?_;rintro e w1 ⟨rfl,rfl⟩)
  |((with_reducible refine zg rfl _ _ _ rfl ?_);refine⟨b,86,q,c,_,t,_,.i64,rfl,rfl,by decide,rfl,size_intA,hM,?_⟩;intro W1 hP1 hM1))
 have G1:=hid (A.put_grown G0 hP1)
 clear h86 hM hP1 G0
 go_wp2_with (first
  |(go_at_call 131;refine(HK _ hM1).mono ?_;rintro e W2 ⟨rfl,hb2⟩;have hM2:=hM1.below hb2;have G2:=hid (A.below_step G1 hb2);have h181:=hM2.att;have h78:W2.cell? ⟨b,78,none⟩=some (.int .u8 (q 78)):=hM2.atq 78 dc .u8 rfl;have h87:W2.cell? ⟨b,87,none⟩=some (.int .i64 (q 87)):=hM2.atq 87 dc .i64 rfl;clear hM1 hb2)
  |((with_reducible refine zg rfl _ _ _ rfl ?_);refine⟨b,86,_,c,_,t,0,.i64,rfl,rfl,by decide,rfl,size_intA,hM2,?_⟩;intro W3 hP3 hM3;have G3:=hid (A.put_grown G2 hP3);have h78:W3.cell? ⟨b,78,none⟩=some (.int .u8 (q 78)):=hM3.atq 78 dc .u8 rfl;have h87:W3.cell? ⟨b,87,none⟩=some (.int .i64 (q 87)):=hM3.atq 87 dc .i64 rfl;clear hM2 hP3 h181)
  |(go_at_call 135;refine(zP _ _ B87.1 B87.2).mono ?_;rintro e w1 ⟨rfl,rfl⟩)
  |((with_reducible refine zg rfl _ _ _ rfl ?_);refine⟨b,87,_,c,_,t,_,.i64,rfl,rfl,by decide,rfl,size_intA,hM3,?_⟩;intro W4 hP4 hM4;have G4:=hid (A.put_grown G3 hP4)))
 refine bodyPost_end (results_none rfl _ _ _) rfl ?_
 exact⟨rfl,⟨by rw [E.out];rw [←A.upd_same86 q (A.more (q 86)) 0];exact hM3,G3⟩⟩
theorem zd1(q c:Nat→Int)(F:Nat)(g p d:Int)(ca:Bool)(t:Int)(b:Nat)(w:World)(hM:A.MvAt w b q c ((F:Int),g,p,d,ca) t)(hF:F<64)(hc:BdOk c)(hq:PosOk q)
  (k:Int) (hk:A.kind c ((F:Int),g,p,d,ca)=k) (d1:(k==1)=false) (d2:decide (0≤t)=false) (d3:(q 78==1)=true):
  cR 57 #[.pointer (some ⟨b,0,none⟩)] w (.tuple #[]) fun w'=>A.Step b (A.clocks c q ((F:Int),g,p,d,ca) t) c ((F:Int),g,p,d,ca) t w w':=by
 have b86:=A.pos_i64 hq (i:=86) dc rfl
 have b87:=A.pos_i64 hq (i:=87) dc rfl
 have h86:w.cell? ⟨b,86,none⟩=some (.int .i64 (q 86)):=hM.atq 86 dc .i64 rfl
 have E:=hid (show A.clocks c q ((F:Int),g,p,d,ca) t=(upd (upd q 86 (A.more (q 86))) 87 (A.more (q 87))) by
  unfold A.clocks
  rw [hk,if_pos (by simpa using d3),if_neg (by simp at d1 d2;omega)])
 have HK:Hid (∀W,A.MvAt W b (upd q 86 (A.more (q 86))) c ((F:Int),g,p,d,ca) t→cB 131 #[.pointer (some ⟨b,0,none⟩)] W (.int .u8 k)):=hid (fun W h=>hk▸zI _ c F g p d ca t b W h hF hc)
 have B86:=hid b86
 have B87:=hid b87
 have G0:=hid (World.grownBy.refl w (some b))
 clear hc hq hk b86 b87
 go_enter func57,ntmps57
 go_upto_region 1 with(first
  |(go_at_call 135;refine(zP _ _ B86.1 B86.2).mono ?_;rintro e w1 ⟨rfl,rfl⟩)
  |((with_reducible refine zg rfl _ _ _ rfl ?_);refine⟨b,86,q,c,_,t,_,.i64,rfl,rfl,by decide,rfl,size_intA,hM,?_⟩;intro W1 hP1 hM1))
 have G1:=hid (A.put_grown G0 hP1)
 clear h86 hM hP1 G0
 go_wp2_with (first
  |(go_at_call 131;refine(HK _ hM1).mono ?_;rintro e W2 ⟨rfl,hb2⟩;have hM2:=hM1.below hb2;have G2:=hid (A.below_step G1 hb2);have h181:=hM2.att;have h78:W2.cell? ⟨b,78,none⟩=some (.int .u8 (q 78)):=hM2.atq 78 dc .u8 rfl;have h87:W2.cell? ⟨b,87,none⟩=some (.int .i64 (q 87)):=hM2.atq 87 dc .i64 rfl;clear hM1 hb2)
  |((with_reducible refine zg rfl _ _ _ rfl ?_);refine⟨b,86,_,c,_,t,0,.i64,rfl,rfl,by decide,rfl,size_intA,hM2,?_⟩;intro W3 hP3 hM3;have G3:=hid (A.put_grown G2 hP3);have h78:W3.cell? ⟨b,78,none⟩=some (.int .u8 (q 78)):=hM3.atq 78 dc .u8 rfl;have h87:W3.cell? ⟨b,87,none⟩=some (.int .i64 (q 87)):=hM3.atq 87 dc .i64 rfl;clear hM2 hP3 h181)
  |(go_at_call 135;refine(zP _ _ B87.1 B87.2).mono ?_;rintro e w1 ⟨rfl,rfl⟩)
  |((with_reducible refine zg rfl _ _ _ rfl ?_);refine⟨b,87,_,c,_,t,_,.i64,rfl,rfl,by decide,rfl,size_intA,hM2,?_⟩;intro W4 hP4 hM4;have G4:=hid (A.put_grown G2 hP4)))
 refine bodyPost_end (results_none rfl _ _ _) rfl ?_
 exact⟨rfl,⟨by rw [E.out];exact hM4,G4⟩⟩
theorem zdY(q c:Nat→Int)(F:Nat)(g p d:Int)(ca:Bool)(t:Int)(b:Nat)(w:World)(hM:A.MvAt w b q c ((F:Int),g,p,d,ca) t)(hF:F<64)(hc:BdOk c)(hq:PosOk q)
  (k:Int) (hk:A.kind c ((F:Int),g,p,d,ca)=k) (d1:(k==1)=false) (d2:decide (0≤t)=false) (d3:(q 78==1)=false):
  cR 57 #[.pointer (some ⟨b,0,none⟩)] w (.tuple #[]) fun w'=>A.Step b (A.clocks c q ((F:Int),g,p,d,ca) t) c ((F:Int),g,p,d,ca) t w w':=by
 have b86:=A.pos_i64 hq (i:=86) dc rfl
 have b87:=A.pos_i64 hq (i:=87) dc rfl
 have h86:w.cell? ⟨b,86,none⟩=some (.int .i64 (q 86)):=hM.atq 86 dc .i64 rfl
 have E:=hid (show A.clocks c q ((F:Int),g,p,d,ca) t=(upd q 86 (A.more (q 86))) by
  unfold A.clocks
  rw [hk,if_neg (by simpa using d3),if_neg (by simp at d1 d2;omega)])
 have HK:Hid (∀W,A.MvAt W b (upd q 86 (A.more (q 86))) c ((F:Int),g,p,d,ca) t→cB 131 #[.pointer (some ⟨b,0,none⟩)] W (.int .u8 k)):=hid (fun W h=>hk▸zI _ c F g p d ca t b W h hF hc)
 have B86:=hid b86
 have B87:=hid b87
 have G0:=hid (World.grownBy.refl w (some b))
 clear hc hq hk b86 b87
 go_enter func57,ntmps57
 go_upto_region 1 with(first
  |(go_at_call 135;refine(zP _ _ B86.1 B86.2).mono ?_;rintro e w1 ⟨rfl,rfl⟩)
  |((with_reducible refine zg rfl _ _ _ rfl ?_);refine⟨b,86,q,c,_,t,_,.i64,rfl,rfl,by decide,rfl,size_intA,hM,?_⟩;intro W1 hP1 hM1))
 have G1:=hid (A.put_grown G0 hP1)
 clear h86 hM hP1 G0
 go_wp2_with (first
  |(go_at_call 131;refine(HK _ hM1).mono ?_;rintro e W2 ⟨rfl,hb2⟩;have hM2:=hM1.below hb2;have G2:=hid (A.below_step G1 hb2);have h181:=hM2.att;have h78:W2.cell? ⟨b,78,none⟩=some (.int .u8 (q 78)):=hM2.atq 78 dc .u8 rfl;have h87:W2.cell? ⟨b,87,none⟩=some (.int .i64 (q 87)):=hM2.atq 87 dc .i64 rfl;clear hM1 hb2)
  |((with_reducible refine zg rfl _ _ _ rfl ?_);refine⟨b,86,_,c,_,t,0,.i64,rfl,rfl,by decide,rfl,size_intA,hM2,?_⟩;intro W3 hP3 hM3;have G3:=hid (A.put_grown G2 hP3);have h78:W3.cell? ⟨b,78,none⟩=some (.int .u8 (q 78)):=hM3.atq 78 dc .u8 rfl;have h87:W3.cell? ⟨b,87,none⟩=some (.int .i64 (q 87)):=hM3.atq 87 dc .i64 rfl;clear hM2 hP3 h181)
  |(go_at_call 135;refine(zP _ _ B87.1 B87.2).mono ?_;rintro e w1 ⟨rfl,rfl⟩)
  |((with_reducible refine zg rfl _ _ _ rfl ?_);refine⟨b,87,_,c,_,t,_,.i64,rfl,rfl,by decide,rfl,size_intA,hM2,?_⟩;intro W4 hP4 hM4;have G4:=hid (A.put_grown G2 hP4)))
 refine bodyPost_end (results_none rfl _ _ _) rfl ?_
 exact⟨rfl,⟨by rw [E.out];exact hM2,G2⟩⟩
theorem zei(q c:Nat→Int)(F:Nat)(g p d:Int)(ca:Bool)(t:Int)(b:Nat)(w:World)(hM:A.MvAt w b q c ((F:Int),g,p,d,ca) t)(hF:F<64)(hc:BdOk c)(hq:PosOk q):
  cR 57 #[.pointer (some ⟨b,0,none⟩)] w (.tuple #[]) fun w'=>A.Step b (A.clocks c q ((F:Int),g,p,d,ca) t) c ((F:Int),g,p,d,ca) t w w':=by
 cases h1:(A.kind c ((F:Int),g,p,d,ca)==1)<;>cases h2:decide (0≤t)<;>cases h3:(q 78==1)
 ·exact zdY q c F g p d ca t b w hM hF hc hq _ rfl h1 h2 h3
 ·exact zd1 q c F g p d ca t b w hM hF hc hq _ rfl h1 h2 h3
 ·exact zec q c F g p d ca t b w hM hF hc hq _ rfl h1 h2 h3
 ·exact zeb q c F g p d ca t b w hM hF hc hq _ rfl h1 h2 h3
 ·exact zdW q c F g p d ca t b w hM hF hc hq _ rfl h1 h2 h3
 ·exact zd7 q c F g p d ca t b w hM hF hc hq _ rfl h1 h2 h3
 ·exact zdV q c F g p d ca t b w hM hF hc hq _ rfl h1 h2 h3
 ·exact zdX q c F g p d ca t b w hM hF hc hq _ rfl h1 h2 h3
end
section
open Go.RowKit Go.Sort
theorem zfq{w:World}{b off:Nat}{cs:List Value}(h:w.rangeAt b off cs)(d:Nat)(os:Array Obj):(grow (redrawn w d) os).rangeAt b off cs:=fun j v hj=>by
 have:=h j v hj
 exact((below_regrown w d os).cell (p:=⟨b,off+j,none⟩) (World.block_lt_of_cell? w _ this)).trans this
theorem zm{P:Program}{K:Act→Prop}{a:Act}{o:Oper}{w:World}(ty:TypeId)(x:Operand)(ho:o.op= .load ty x){d:TypeDesc}(hu:P.underlying ty=some d)(hd:d.isRow=true)
  (h:∃(b off:Nat) (cs:List Value),a.eval x= .pointer (some ⟨b,off,none⟩)∧w.rangeAt b off cs∧(P.info? ty).map (·.size)=some cs.length∧K (a.put o.dst (.agg cs.toArray))):o.quiet P a (fun w'=>∃p:Regrown,w'=grow (redrawn w p.d) p.os) K:=by
 obtain⟨b,off,cs,hx,hp,hi,h⟩:=h
 refine⟨.agg cs.toArray,fun w' ⟨p,e⟩=> ?_,h⟩
 have hg:w'.rangeAt b off cs:=by rw [e];exact zfq hp _ _
 unfold Oper.quietAt execOp
 simp only [ho,hx,Instr.loadAt,Instr.sureAddr,Sem.run_bind,Sem.run_pure,Result.andThen_ok,run_loadVar_mid w' b off ty cs d hg hu hd hi]
 exact⟨rfl,rfl⟩
namespace A
theorem posL_info(c:Nat→Int):(prog.info? 31).map (·.size)=some (posL c).length:=by rw [infoPos];simp [posL]
theorem cell_info(m:Mv):(prog.info? 47).map (·.size)=some (M.cell m).length:=by kernel_rfl
structure Ctx (w0 w:World) (b:Nat):Prop where
 tb:Tb w0
 below:Below w0.heap.size w0 w
 le:w0.heap.size≤b
theorem Ctx.tb'{w0 w:World}{b:Nat}(h:Ctx w0 w b):Tb w:=zi h.tb h.below
theorem Ctx.put{w0 w w':World}{b:Nat}(h:Ctx w0 w b)(hP:Put b w w'):Ctx w0 w' b:=⟨h.tb,hP.below h.below h.le,h.le⟩
theorem Ctx.next{w0 w w':World}{b:Nat}(h:Ctx w0 w b)(hb:Below w.heap.size w w'):Ctx w0 w' b:=⟨h.tb,za h.below hb,h.le⟩
theorem Ctx.grown{w0 w w':World}{b:Nat}(h:Ctx w0 w b)(hg:w.grownBy w' (some b)):Ctx w0 w' b:=
 ⟨h.tb,h.below.grown hg h.below.size (fun k e=>by cases e;exact h.le),h.le⟩
theorem posOk_upd{c:Nat→Int}(h:PosOk c)(i:Nat)(n:Int)(hn:(Lit.int (pk i) n).wf=true):PosOk (upd c i n):=fun j hj=>by
 unfold upd
 split
 ·subst j;exact hn
 ·exact h j hj
end A
namespace A
def dmv(k:Nat)(s:Nat):Mv:=((s:Int),(s:Int),0,(k:Int),false)
def dsq(c:Nat→Int)(k s:Nat):List Mv:=if P.kind (c (1+s))≠0∨(k=1∧(s<8∨55<s))then []else [dmv k s]
def drow(c:Nat→Int)(k:Nat):Nat→List Mv
 |0=>[]
 |n+1=>drow c k n++dsq c k n
def drowP(c:Nat→Int)(t k:Nat):List Mv:=if c (66+6*t+k)=0 then []else drow c k 64
def dall(c:Nat→Int)(t:Nat):Nat→List Mv
 |0=>[]
 |n+1=>dall c t n++drowP c t (n+1)
theorem zeB(c:Nat→Int)(k:Nat):∀n,(drow c k n).length≤n
 |0=>Nat.le_refl _
 |n+1=>by
  have:=zeB c k n
  rw [drow,List.length_append]
  unfold dsq
  split<;>simp<;>omega
theorem zgP(c:Nat→Int)(t k:Nat):(drowP c t k).length≤64:=by
 unfold drowP
 split
 ·simp
 ·exact zeB c k 64
theorem dall_len(c:Nat→Int)(t:Nat):∀n,(dall c t n).length≤64*n
 |0=>Nat.le_refl _
 |n+1=>by
  have:=dall_len c t n
  have:=zgP c t (n+1)
  rw [dall,List.length_append]
  omega
def dmask(k:Nat):BitVec 64:=if k=1 then 0x00ffffffffffff00#64 else bNot 0#64
theorem zhd:∀s:Fin 64,bit 0x00ffffffffffff00#64 s.val=decide (¬(s.val<8∨55<s.val))∧bit (bNot 0#64) s.val=true:=by decide+kernel
theorem isB_kind(x:Int)(h0:0≤x)(h1:x≤255):P.isB x=(P.kind x !=0):=all8 (fun x=>P.isB x=(P.kind x !=0)) (by decide+kernel) x h0 h1
theorem zi5(x:BitVec 64)(n:Nat)(hn:n<64):bit (bNot x) n= !bit x n:=by
 unfold bit bNot
 rw [BitVec.getLsbD_not]
 simp [hn]
def where'(c:Nat→Int)(k:Nat):BitVec 64:=bAnd (bNot (S.all c)) (dmask k)
theorem where_sq(c:Nat→Int)(k s:Nat)(hc:BdOk c)(hs:s<64):(if bit (where' c k) s=true then [dmv k s]else [])=dsq c k s:=by
 obtain⟨x0,x1⟩:=hc s hs
 obtain⟨h1,h2⟩:=zhd ⟨s,hs⟩
 unfold where' dmask
 rw [zav,zi5 _ _ hs,zbQ c s hs,isB_kind _ x0 x1]
 unfold dsq
 by_cases hk:k=1
 ·rw [if_pos hk,h1]
  by_cases h:P.kind (c (1+s))=0<;>by_cases h':s<8∨55<s<;>simp [h,h',hk]
 ·rw [if_neg hk,h2]
  by_cases h:P.kind (c (1+s))=0<;>simp [h,hk]
theorem map_row(p:Nat→Bool)(c:Nat→Int)(k:Nat)(h:∀s,s<64→(if p s=true then [dmv k s]else [])=dsq c k s):∀n,n≤64→((List.range n).filter p).map (dmv k)=drow c k n
 |0,_=>rfl
 |n+1,hn=>by
  rw [List.range_succ,List.filter_append,List.map_append,map_row p c k h n om,drow,←h n om]
  congr 1
  by_cases e:p n=true<;>simp [e]
theorem zg7(c:Nat→Int)(t k:Nat)(hc:BdOk c):dropsK c t k=drowP c t k:=by
 unfold dropsK drowP
 split
 ·rfl
 ·exact map_row _ c k (fun s hs=>where_sq c k s hc hs) 64 (Nat.le_refl _)
theorem zdJ(c:Nat→Int)(t:Nat)(hc:BdOk c):∀n,((List.range n).flatMap fun n=>dropsK c t (n+1))=dall c t n
 |0=>rfl
 |n+1=>by
  rw [List.range_succ,List.flatMap_append,zdJ c t hc n,dall,←zg7 c t (n+1) hc]
  simp
theorem drops_eq(c:Nat→Int)(hc:BdOk c):drops c=if c 78≤1∧c 0=2 then dall c (c 78).toNat 5 else []:=by
 unfold drops
 split
 ·exact zdJ c _ hc 5
 ·rfl
theorem zhG(c:Nat→Int)(m:Mv)(h:m∈drops c):c 0=2∧c 78≤1∧∃k s:Nat,1≤k∧k≤5∧s<64∧m=dmv k s:=by
 unfold drops at h
 split at h
 ·rename_i hh
  obtain⟨n,hn,h⟩:=List.mem_flatMap.1 h
  have hn:=List.mem_range.1 hn
  unfold dropsK at h
  split at h
  ·cases h
  ·obtain⟨s,hs,rfl⟩:=List.mem_map.1 h
   unfold B.list at hs
   exact⟨hh.2,hh.1,n+1,s,by omega,by omega,List.mem_range.1 (List.mem_filter.1 hs).1,rfl⟩
 ·cases h
end A
end
section
open Go.RowKit Go.Sort
attribute [local go_sem] Oper.semAt_some
namespace A
def blownV(q:Nat→Int)(s:Int):BitVec 64:=if 0≤s∧s<64 then blown q s else 0#64
def near(q:Nat→Int)(s:Int):Nat→BitVec 64
 |0=>bAnd (R.king s) (S.all q)
 |1=>bAndn (bAnd (R.king s) (S.all q)) (S.of q 0 1)
 |_=>bAndn (bAndn (bAnd (R.king s) (S.all q)) (S.of q 0 1)) (S.of q 1 1)
end A
theorem zfC(q:Nat→Int)(s:Int)(w:World)(hq:BdOk q):
  cB 130 #[.agg (posC q),.int .i64 s] w (.int .u64 (U (A.blownV q s))):=by
 have hb0:Below w.heap.size w (w.alloc (.cells (posC q) 31)):=bA
 have hp:=PosAt.new w q
 by_cases h:s<0
 ·have d1:decide (s<0)=true:=decide_eq_true h
  have E:=hid (show A.blownV q s=0#64 by unfold A.blownV;rw [if_neg om])
  clear hp
  go_enter func130,ntmps130
  go_wp2
  go_ret
  exact⟨ret_int (by rw [E.out];rfl),hb0⟩
 ·have d1:decide (s<0)=false:=decide_eq_false h
  by_cases h2:64≤s
  ·have d2:decide (64≤s)=true:=decide_eq_true h2
   have E:=hid (show A.blownV q s=0#64 by unfold A.blownV;rw [if_neg om])
   clear hp
   go_enter func130,ntmps130
   go_wp2
   go_ret
   exact⟨ret_int (by rw [E.out];rfl),hb0⟩
  ·have d2:decide (64≤s)=false:=decide_eq_false h2
   obtain⟨n,rfl⟩:∃n:Nat,s=(n:Int):=⟨s.toNat,by omega⟩
   have E:=hid (show A.blownV q (n:Int)=bOr (A.near q (n:Int) 2) (B.one (n:Int)) by unfold A.blownV;rw [if_pos om];rfl)
   have e1:=B.one_val (n:Int) om om
   rw [Int.toNat_natCast]at e1
   have hw:IntKind.u64.wrap (n:Int)=(n:Int):=by rw [IntKind.wrap_u64];omega
   have E1:=hid e1
   have HQ:=hid hq
   have HW:=hid hw
   clear hq e1 hw
   go_enter func130,ntmps130
   go_wp2_with fail
   obtain⟨W,hW⟩:∃W,w.alloc (.cells (posC q) 31)=W:=⟨_,rfl⟩
   rw [hW]at hb0 hp⊢
   clear hW
   refine rB ?_
   repeat(first
    |(go_big_quiet_want;refine zL _ rfl ⟨_,_,rfl,hp,?_⟩;simp only [Act.put,sA,sB,sC];go_big_quiet_on)
    |go_big_quiet_step (first
     |(go_at_call 202;exact zd (zao _ _))
     |(go_at_call 197;exact zd (zan q _ HQ))))
   refine wpQuiet_nil ?_
   intro w1 hb1
   have HP:=hid (hp.below hb1)
   have HB:=hid (za hb0 hb1)
   clear hp hb0 hb1
   go_wp2_with fail
   go_loopw [5,6] (fun vn vi wr=>∃k:Nat,k≤2∧vi= .int .u8 (k:Int)∧vn= .int .u64 (U (A.near q (n:Int) k))∧PosAt wr w.heap.size q∧Below w.heap.size w wr) (fun _ vi _=>2-(intOf vi).toNat)
   case atStart=>exact⟨0,by omega,rfl,rfl,HP,HB⟩
   case round=>
    obtain⟨k,hk,rfl,rfl,hp,hb⟩:=hrel
    rcases(show k=0∨k=1∨k=2 by omega)with rfl|rfl|rfl
    ·go_wp2_with (first
      |((with_reducible refine ze rfl _ rfl ?_);refine⟨_,_,rfl,hp,?_⟩)
      |(go_at_call 134;refine(zO q _ _ _ HQ).mono ?_;rintro e w2 ⟨rfl,hb2⟩))
     go_roundw
     case rel=>exact⟨1,by omega,rfl,rfl,hp.below hb2,za hb hb2⟩
     case measure=>simp [intOf]
    ·go_wp2_with (first
      |((with_reducible refine ze rfl _ rfl ?_);refine⟨_,_,rfl,hp,?_⟩)
      |(go_at_call 134;refine(zO q _ _ _ HQ).mono ?_;rintro e w2 ⟨rfl,hb2⟩))
     go_roundw
     case rel=>exact⟨2,by omega,rfl,rfl,hp.below hb2,za hb hb2⟩
     case measure=>simp [intOf]
    ·have e1:=E1.out
     have hw:=HW.out
     go_wp2
     go_ret
     exact⟨ret_int (by rw [E.out]),hb⟩
namespace A
def blG(c:Nat→Int)(s a:Nat):Bool:=decide (a=s)||(D.beside (a:Int) (s:Int)&&(P.kind (c (1+a)) !=0&&P.kind (c (1+a)) !=1))
theorem zeY:∀(a b:Fin 64),D.beside (a.val:Int) (b.val:Int)=D.beside (b.val:Int) (a.val:Int):=by decide+kernel
theorem zh1(x:Int)(h0:0≤x)(h1:x≤255):((P.isB x&& !(P.isB x&&S.ofG 0 1 x))&& !(P.isB x&&S.ofG 1 1 x))=(P.kind x !=0&&P.kind x !=1):=
 all8 (fun x=>((P.isB x&& !(P.isB x&&S.ofG 0 1 x))&& !(P.isB x&&S.ofG 1 1 x))=(P.kind x !=0&&P.kind x !=1)) (by decide+kernel) x h0 h1
theorem zgK(c:Nat→Int)(s j:Nat)(hc:0≤c (1+j)∧c (1+j)≤255)(hs:s<64)(hj:j<64):bit (blown c (s:Int)) j=blG c s j:=by
 obtain⟨x0,x1⟩:=hc
 have h:=zh1 _ x0 x1
 unfold blown
 rw [zag,zaE,zaE,zav,zaP s j hs,zer ⟨s,hs⟩ ⟨j,hj⟩,zbQ c j hj,zeO c 0 1 j hj,zeO c 1 1 j hj,zeY ⟨s,hs⟩ ⟨j,hj⟩]
 unfold blG
 rw [←h]
 cases D.beside (j:Int) (s:Int)<;>cases P.isB (c (1+j))<;>cases S.ofG 0 1 (c (1+j))<;>cases S.ofG 1 1 (c (1+j))<;>cases decide (j=s)<;>rfl
end A
end
section
open Go.RowKit Go.Sort
namespace A
theorem u_ne(c:Nat→Int){i j:Nat}(n:Int)(h:j≠i):upd c i n j=c j:=by unfold upd;rw [if_neg h]
theorem turn_bd(q:Nat→Int)(i:Nat)(h:i≤64):turn q i=q i:=by
 unfold turn
 split
 ·rw [u_ne _ _ om];exact u_ne _ _ om
 ·exact u_ne _ _ om
theorem clocks_bd(c q:Nat→Int)(m:Mv)(t:Int)(i:Nat)(h:i≤64):clocks c q m t i=q i:=by
 unfold clocks
 try dsimp only
 split
 ·rw [u_ne _ _ om,u_ne _ _ om]
 ·exact u_ne _ _ om
theorem pass_bd(c q:Nat→Int)(m:Mv)(i:Nat)(h:i≤64):pass c q m i=q i:=by
 unfold pass
 split
 ·rw [u_ne _ _ om,u_ne _ _ om]
 ·exact u_ne _ _ om
theorem ze8(c q:Nat→Int)(m:Mv)(i:Nat)(h:i≤64):rights0 c q m i=q i:=by
 unfold rights0
 split
 ·rw [u_ne _ _ om,u_ne _ _ om]
 ·rfl
theorem za7(q:Nat→Int)(m:Mv)(t:Int)(col side i:Nat)(h:i≤64):rights1 q m t col side i=q i:=by
 unfold rights1
 split
 ·exact u_ne _ _ om
 ·rfl
theorem rights_bd(c q:Nat→Int)(m:Mv)(t:Int)(i:Nat)(h:i≤64):rights c q m t i=q i:=by
 unfold rights
 rw [za7 _ _ _ _ _ _ h,za7 _ _ _ _ _ _ h,za7 _ _ _ _ _ _ h,za7 _ _ _ _ _ _ h,ze8 _ _ _ _ h]
theorem add_bd(c:Nat→Int)(color kind:Int)(i:Nat)(h:i≤64):add c color kind i=c i:=by
 unfold add
 split
 ·exact u_ne _ _ (by unfold pk6;omega)
 ·rfl
theorem zfu(c:Nat→Int)(color kind:Int)(i:Nat)(h:i≤64):take c color kind i=c i:=by
 unfold take
 split
 ·exact u_ne _ _ (by unfold pk6;omega)
 ·rfl
theorem zct(c q:Nat→Int)(t:Int)(i:Nat)(h:i≤64):pocketT c q t i=q i:=by
 unfold pocketT
 split
 ·unfold unmark
  rw [u_ne _ _ om,add_bd _ _ _ _ h]
 ·rfl
theorem pocket_bd(c q:Nat→Int)(m:Mv)(t:Int)(i:Nat)(h:i≤64):pocket c q m t i=q i:=by
 unfold pocket
 split
 ·rfl
 ·split
  ·split
   ·unfold domark unmark
    rw [u_ne _ _ om,u_ne _ _ om]
   ·rfl
  ·split
   ·unfold domark unmark
    rw [u_ne _ _ om,u_ne _ _ om,zct _ _ _ _ h]
   ·unfold unmark
    rw [u_ne _ _ om,zct _ _ _ _ h]
theorem wipe_bd(l:List Nat)(i:Nat):∀(q:Nat→Int),(∀x∈l,1+x≠i)→wipe q l i=q i:=by
 induction l with
 |nil=>intro q _;rfl
 |cons s l ih=>
  intro q h
  rw [wipe,ih _ (fun x hx=>h x (List.mem_cons_of_mem _ hx))]
  exact u_ne _ _ (fun e=>h s List.mem_cons_self e.symm)
theorem men_bd(c:Nat→Int)(F G:Nat)(p d:Int)(ca:Bool)(t:Int)(s:Nat)(hs:s<64)(nF:s≠F)(nG:s≠G)(nt:(s:Int)≠t)(nk:ca=true→s≠kg c ((F:Int),(G:Int),p,d,ca)∧s≠rg c ((F:Int),(G:Int),p,d,ca)):
  men c ((F:Int),(G:Int),p,d,ca) t (1+s)=c (1+s):=by
 have hF:cellF ((F:Int),(G:Int),p,d,ca)=1+F:=by unfold cellF;simp
 have hG:cellT ((F:Int),(G:Int),p,d,ca)=1+G:=by unfold cellT;simp
 have hT:(if 0≤t then upd c (1+t.toNat) 0 else c) (1+s)=c (1+s):=by
  split
  ·exact u_ne _ _ om
  ·rfl
 unfold men
 rw [hF,hG]
 split
 ·rename_i h
  obtain⟨k1,k2⟩:=nk h
  rw [u_ne _ _ om,u_ne _ _ om,u_ne _ _ om,u_ne _ _ om]
 ·split
  ·rw [u_ne _ _ om]
   exact zfu _ _ _ _ om
  ·split
   ·rw [u_ne _ _ om,u_ne _ _ om,u_ne _ _ om,hT]
   ·rw [u_ne _ _ om,u_ne _ _ om,hT]
theorem men_0(c:Nat→Int)(m:Mv)(t:Int):men c m t 0=c 0:=by
 have hT:(if 0≤t then upd c (1+t.toNat) 0 else c) 0=c 0:=by
  split
  ·exact u_ne _ _ om
  ·rfl
 unfold men
 split
 ·rw [u_ne _ _ om,u_ne _ _ om,u_ne _ _ (by unfold cellT;omega),u_ne _ _ (by unfold cellF;omega)]
 ·split
  ·rw [u_ne _ _ (by unfold cellT;omega),zfu _ _ _ _ om]
  ·split
   ·rw [u_ne _ _ (by unfold cellT;omega),u_ne _ _ (by unfold cellT;omega),u_ne _ _ (by unfold cellF;omega),hT]
   ·rw [u_ne _ _ (by unfold cellT;omega),u_ne _ _ (by unfold cellF;omega),hT]
theorem squares(c:Nat→Int)(F G:Nat)(p d:Int)(ca:Bool)(t:Int)(s:Nat)(hs:s<64)(hG:G<64)(hc:BdOk c)(nF:s≠F)(nG:s≠G)(nt:(s:Int)≠t)
  (nk:ca=true→s≠kg c ((F:Int),(G:Int),p,d,ca)∧s≠rg c ((F:Int),(G:Int),p,d,ca)) (nb:¬(c 0=3∧0≤t∧D.beside (s:Int) (G:Int)=true∧c (1+s) % 8≠1)):
  after c ((F:Int),(G:Int),p,d,ca) t (1+s)=c (1+s):=by
 obtain⟨x0,x1⟩:=hc s hs
 have e1:=men_bd c F G p d ca t s hs nF nG nt nk
 have e2:=pocket_bd c (men c ((F:Int),(G:Int),p,d,ca) t) ((F:Int),(G:Int),p,d,ca) t (1+s) om
 have z2:=pocket_bd c (men c ((F:Int),(G:Int),p,d,ca) t) ((F:Int),(G:Int),p,d,ca) t 0 om
 rw [men_0]at z2
 rw [e1]at e2
 unfold after
 rw [turn_bd _ _ om,clocks_bd _ _ _ _ _ om,pass_bd _ _ _ _ om,rights_bd _ _ _ _ _ om]
 generalize pocket c (men c ((F:Int),(G:Int),p,d,ca) t) ((F:Int),(G:Int),p,d,ca) t=q at*
 unfold blow
 split
 ·exact e2
 ·rename_i h
  rw [wipe_bd _ _ _ ?_,e2]
  intro x hx e
  have hx':x=s:=by omega
  subst hx'
  unfold B.list at hx
  have hb:=(List.mem_filter.1 hx).2
  rw [show(((F:Int),(G:Int),p,d,ca):Mv).2.1=(G:Int)from rfl,zgK q G x (by rw [e2];exact⟨x0,x1⟩) hG hs]at hb
  unfold blG at hb
  rw [e2,D.kind_of _ x0 x1]at hb
  simp only [Bool.or_eq_true,decide_eq_true_eq,Bool.and_eq_true,bne_iff_ne,ne_eq]at hb
  rcases hb with hb|⟨hb1,hb2,hb3⟩
  ·exact nG hb
  ·refine nb ⟨by omega,by omega,hb1,?_⟩
   split at hb3
   ·rename_i h2
    rw [if_pos h2]at hb2
    exact absurd rfl hb2
   ·exact hb3
end A
theorem zcq(a b:Nat)(ha:a<18446744073709551616)(hb:b<18446744073709551616):bits .and .u64 (a:Int) (b:Int)=((a&&&b:Nat):Int):=u64_and_nat a b ha hb
theorem wrap_u64(a:Nat)(h:a<18446744073709551616):IntKind.u64.wrap (a:Int)=a:=by rw [IntKind.wrap_u64];omega
theorem div_n(a q:Nat):(a:Int)/(q:Int)=((a/q:Nat):Int):=(Int.natCast_ediv a q).symm
theorem zi6(x:Nat)(h:x<18446744073709551616):IntKind.u64.wrap (bits .and .u64 ((x:Int)/2) 6148914691236517205+bits .and .u64 (x:Int) 6148914691236517205)=(C.y1 x:Int):=by
 have e1:=zcq (x/2) (C.m1 8) om dc
 have e2:=zcq x (C.m1 8) h dc
 have e3:((C.m1 8:Nat):Int)=6148914691236517205:=by decide
 rw [e3]at e1 e2
 have e4:=div_n x 2
 rw [show((2:Nat):Int)=2 from rfl]at e4
 rw [e4,e1,e2,←Int.natCast_add]
 exact wrap_u64 _ (C.y1_lt x)
theorem ziA(x:Nat):IntKind.u64.wrap (bits .and .u64 ((C.y1 x:Int)/4) 3689348814741910323+bits .and .u64 (C.y1 x:Int) 3689348814741910323)=(C.y2 x:Int):=by
 have h:=C.y1_lt x
 have e1:=zcq (C.y1 x/4) (C.m2 8) om dc
 have e2:=zcq (C.y1 x) (C.m2 8) h dc
 have e3:((C.m2 8:Nat):Int)=3689348814741910323:=by decide
 rw [e3]at e1 e2
 have e4:=div_n (C.y1 x) 4
 rw [show((4:Nat):Int)=4 from rfl]at e4
 rw [e4,e1,e2,←Int.natCast_add]
 have:=C.y2_le x
 exact wrap_u64 _ (show C.y2 x<_ by omega)
theorem zis(x:Nat):bits .and .u64 (IntKind.u64.wrap ((C.y2 x:Int)/16+(C.y2 x:Int))) 1085102592571150095=(C.y3 x:Int):=by
 have h:=C.y2_le x
 have e4:=div_n (C.y2 x) 16
 rw [show((16:Nat):Int)=16 from rfl]at e4
 rw [e4,←Int.natCast_add,wrap_u64 _ om]
 have e2:=zcq (C.y2 x/16+C.y2 x) (C.m4 8) om dc
 have e3:((C.m4 8:Nat):Int)=1085102592571150095:=by decide
 rw [e3]at e2
 exact e2
theorem ziZ(x:Nat):IntKind.u64.wrap ((C.y3 x:Int)+(C.y3 x:Int)/256)=(C.y4 x:Int):=by
 have e4:=div_n (C.y3 x) 256
 rw [show((256:Nat):Int)=256 from rfl]at e4
 rw [e4,←Int.natCast_add]
 exact wrap_u64 _ (C.y_all x).2.1
theorem ziO(x:Nat):IntKind.u64.wrap ((C.y4 x:Int)+(C.y4 x:Int)/65536)=(C.y5 x:Int):=by
 have e4:=div_n (C.y4 x) 65536
 rw [show((65536:Nat):Int)=65536 from rfl]at e4
 rw [e4,←Int.natCast_add]
 exact wrap_u64 _ (C.y_all x).2.2.1
theorem zil(x:Nat):IntKind.u64.wrap ((C.y5 x:Int)+(C.y5 x:Int)/4294967296)=(C.y6 x:Int):=by
 have e4:=div_n (C.y5 x) 4294967296
 rw [show((4294967296:Nat):Int)=4294967296 from rfl]at e4
 rw [e4,←Int.natCast_add]
 exact wrap_u64 _ (show C.y6 x<_ by have:=(C.y_all x).2.2.2;omega)
theorem zcn(x:Nat)(w:World)(h:x<18446744073709551616):
  cR 272 #[.int .u64 (x:Int)] w (.int .i64 (C.cnt x 64:Int)) fun w'=>w=w':=by
 have H:=hid h
 clear h
 go_enter func272,ntmps272
 go_wp2
 go_ret
 refine⟨ret_int ?_,rfl⟩
 have k1:=zi6 x H.out
 rw [k1,ziA,zis,ziZ,ziO,zil]
 have hy:=C.y_all x
 rw [IntWalk.wrap64_in _ ⟨by omega,by have:=hy.2.2.2;omega⟩,i64_and127,←hy.1]
 omega
def B.count(b:BitVec 64):Nat:=C.cnt b.toNat 64
end
section
namespace N
def tx(s:Nat):ByteArray:=⟨#[UInt8.ofNat (97+s % 8),UInt8.ofNat (49+s/8)]⟩
def two(f g:Nat):ByteArray:=⟨#[UInt8.ofNat (97+f % 8),UInt8.ofNat (49+f/8),UInt8.ofNat (97+g % 8),UInt8.ofNat (49+g/8)]⟩
def lowB:Nat→List UInt8
 |2=>[110]|3=>[98]|4=>[114]|5=>[113]|6=>[107]|_=>[]
def upB:Nat→UInt8
 |1=>80|2=>78|3=>66|4=>82|_=>81
def walk(f g x:Nat):ByteArray:=⟨(UInt8.ofNat (97+f % 8)::UInt8.ofNat (49+f/8)::UInt8.ofNat (97+g % 8)::UInt8.ofNat (49+g/8)::lowB x).toArray⟩
def drop(y g:Nat):ByteArray:=⟨#[upB y,64,UInt8.ofNat (97+g % 8),UInt8.ofNat (49+g/8)]⟩
def home(c:Nat→Int):Nat:=56*(c 78).toNat
def king(c:Nat→Int)(f:Nat):Bool:=c (1+f)==P.make (c 78) 6
def rk(c:Nat→Int)(k:Nat):Int:=c (79+2*(c 78).toNat+k)
def goal(k:Nat):Nat:=if k=0 then 6 else 2
def known(c:Nat→Int):Prop:=(0≤c 0∧c 0<9)∧(0≤c 78∧c 78≤1)
theorem zdz{a b:Nat}(ha:a<256)(hb:b<256)(h:UInt8.ofNat a=UInt8.ofNat b):a=b:=by
 have:=congrArg UInt8.toNat h
 rwa [UInt8.toNat_ofNat',UInt8.toNat_ofNat',Nat.mod_eq_of_lt om,Nat.mod_eq_of_lt om]at this
theorem sq_inj{f g:Nat}(hf:f<64)(hg:g<64)(h1:UInt8.ofNat (97+f % 8)=UInt8.ofNat (97+g % 8))(h2:UInt8.ofNat (49+f/8)=UInt8.ofNat (49+g/8)):f=g:=by
 have:=zdz om om h1
 have:=zdz om om h2
 omega
theorem ziB{a b:List UInt8}(h:(⟨a.toArray⟩:ByteArray)=⟨b.toArray⟩):a=b:=by
 injection h with h
 injection h
end N
namespace N
def mk(a b:Nat)(l:List UInt8):ByteArray:=⟨(UInt8.ofNat (97+a % 8)::UInt8.ofNat (49+a/8)::UInt8.ofNat (97+b % 8)::UInt8.ofNat (49+b/8)::l).toArray⟩
section
variable (p q r t:UInt8) (l:List UInt8)
end
theorem tx_two'{a b:UInt8}{s:Nat}(h:(⟨#[a,b]⟩:ByteArray)=tx s):a=UInt8.ofNat (97+s % 8)∧b=UInt8.ofNat (49+s/8):=by
 have:=ziB (a:=[a,b]) (b:=[_,_]) h
 simp only [List.cons.injEq,and_true]at this
 exact this
end N
end
end Go.Proofs.YtbakeajgolhkgaaGreatDoor
