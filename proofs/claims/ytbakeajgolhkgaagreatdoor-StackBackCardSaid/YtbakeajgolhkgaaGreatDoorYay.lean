import Derived.Test.YtbakeajgolhkgaaGreatDoorYag
set_option maxRecDepth 100000
set_option maxHeartbeats 8000000
open Go.Lib (hid)
namespace Go.Proofs.YtbakeajgolhkgaaGreatDoor
open Go.Proofs.Tryz
open Go.RowKit Go.Sort
attribute [local go_sem] Oper.semAt_some
theorem A.pass_no(c q:Nat→Int)(m:Mv)(h:¬A.passes c (upd q 83 (-1)) m):A.pass c q m=upd q 83 (-1):=by unfold A.pass;rw [if_neg h]
theorem A.pass_yes(c q:Nat→Int)(m:Mv)(h:A.passes c (upd q 83 (-1)) m):A.pass c q m=upd (upd q 83 (-1)) 83 ((m.1+m.2.1)/2):=by unfold A.pass;rw [if_pos h]
theorem size_i8A:(prog.info? 26).map (·.size)=some 1:=by kernel_rfl
theorem IntKind.wrap_i8A(n:Int):IntKind.i8.wrap n=(n+128) % 256-128:=by
 simp [IntKind.wrap,IntKind.bits,IntKind.signed]
 omega
theorem A.U_zero{x:BitVec 64}(h:(U x !=0)=false):x=0#64:=by
 have:U x=0:=by simpa using h
 exact BitVec.eq_of_toNat_eq (by unfold U at this;simpa using this)
theorem A.U_ne{x:BitVec 64}(h:(U x !=0)=true):x≠0#64:=fun e=>by rw [e]at h;cases h
theorem zaU(q c:Nat→Int)(F G:Nat)(p d:Int)(ca:Bool)(t:Int)(b:Nat)(w:World)(hM:A.MvAt w b q c ((F:Int),(G:Int),p,d,ca) t)(hF:F<64)(hG:G<64)(hc:BdOk c)(hq:PosOk q)(h78:q 78=0)
  (k:Int) (hk:A.kind c ((F:Int),(G:Int),p,d,ca)=k) (he:((k !=1)=true)∨((k !=1)=false∧(d !=0)=true)∨((k !=1)=false∧(d !=0)=false∧((G:Int)-F !=16)=true∧((F:Int)-G !=16)=true)∨((k !=1)=false∧(d !=0)=false∧((G:Int)-F !=16)=false∧((F:Int)/8 !=1)=true∧((F:Int)/8 != -1)=true)∨((k !=1)=false∧(d !=0)=false∧((G:Int)-F !=16)=true∧((F:Int)-G !=16)=false∧((F:Int)/8 !=1)=true∧((F:Int)/8 != -1)=true)):
  cR 56 #[.pointer (some ⟨b,0,none⟩)] w (.tuple #[]) fun w'=>A.Step b (A.pass c q ((F:Int),(G:Int),p,d,ca)) c ((F:Int),(G:Int),p,d,ca) t w w':=by
 have h78':upd q 83 (-1) 78=0:=h78
 rcases he with e1|⟨e1,e2⟩|⟨e1,e2,e3,e4⟩|⟨e1,e2,e3,e5,e6⟩|⟨e1,e2,e3,e4,e5,e6⟩
 all_goals
  have E:=hid (show A.pass c q ((F:Int),(G:Int),p,d,ca)=(upd q 83 (-1)) by
   rw [A.pass_no]
   intro h
   first
    |(have h1:=h.2.2.2.1;rw [h78']at h1;change(F:Int)/8=_∨(F:Int)/8=_ at h1;simp at e5 e6;omega)
    |(have h1:=h.2.2.1;change(G:Int)-F=16∨(F:Int)-G=16 at h1;simp at e3 e4;omega)
    |(have h1:=h.2.1;change d=0 at h1;rw [h1]at e2;cases e2)
    |(have h1:=h.1;rw [hk]at h1;rw [h1]at e1;cases e1))
  have HK:Hid (∀W,A.MvAt W b (upd q 83 (-1)) c ((F:Int),(G:Int),p,d,ca) t→cB 131 #[.pointer (some ⟨b,0,none⟩)] W (.int .u8 k)):=hid (fun W h=>hk▸zI _ c F G p d ca t b W h hF hc)
  have hw3:IntKind.i8.wrap ((G:Int)-(F:Int))=(G:Int)-F:=by rw [IntKind.wrap_i8A];omega
  have hw4:IntKind.i8.wrap ((F:Int)-(G:Int))=(F:Int)-G:=by rw [IntKind.wrap_i8A];omega
  have hw5:IntKind.i8.wrap ((F:Int)+(G:Int))=(F:Int)+G:=by rw [IntKind.wrap_i8A];omega
  have hw6:IntKind.i8.wrap (((F:Int)+(G:Int)).tdiv 2)=((F:Int)+G)/2:=by rw [Int.tdiv_eq_ediv_of_nonneg om,IntKind.wrap_i8A];omega
  have hw7:wrap64 (((F:Int)+(G:Int))/2)=((F:Int)+G)/2:=by simp only [wrap64];omega
  have G0:=hid (World.grownBy.refl w (some b))
  have HQ:=hid (zw (A.posOk_upd hq 83 (-1) dc))
  have hp31:=underlying31
  clear hc hk
  go_enter func56,ntmps56
  go_upto_region 1 with((with_reducible refine zg rfl _ _ _ rfl ?_);refine⟨b,83,q,c,_,t,(-1),.i8,rfl,rfl,by decide,rfl,size_i8A,hM,?_⟩;intro W1 hP1 hM1)
  have G1:=hid (A.put_grown G0 hP1)
  have c176:W1.cell? ⟨b,176,none⟩=some (.int .i8 (F:Int)):=hM1.atm 0 _ rfl
  have c177:W1.cell? ⟨b,177,none⟩=some (.int .i8 (G:Int)):=hM1.atm 1 _ rfl
  have c179:W1.cell? ⟨b,179,none⟩=some (.int .u8 d):=hM1.atm 3 _ rfl
  have hbl:=hM1.lt
  clear hM hP1 G0
  simp only [Act.put]
  refine rB ?_
  repeat(first
   |go_big_quiet_step (first
    |(go_at_call 131;exact zd (HK _ (hM1.below (below_regrown _ _ _))))))
  refine wpQuiet_nil ?_
  intro w3 hb3
  have G2:=hid (A.below_step G1 hb3)
  have hM2:=hM1.below hb3
  clear c176 c177 c179 hbl hM1 hb3
  have c176:w3.cell? ⟨b,176,none⟩=some (.int .i8 (F:Int)):=hM2.atm 0 _ rfl
  have c177:w3.cell? ⟨b,177,none⟩=some (.int .i8 (G:Int)):=hM2.atm 1 _ rfl
  have c78:w3.cell? ⟨b,78,none⟩=some (.int .u8 0):=by rw [←h78];exact hM2.atq 78 dc .u8 rfl
  go_wp2
  first|refine bodyPost_end (results_none rfl _ _ _) rfl ?_|refine bodyPost_ret (results_none rfl _ _ _) rfl ?_
  exact⟨rfl,⟨by rw [E.out];exact hM2,G2⟩⟩
theorem zbA(q c:Nat→Int)(F G:Nat)(p d:Int)(ca:Bool)(t:Int)(b:Nat)(w:World)(hM:A.MvAt w b q c ((F:Int),(G:Int),p,d,ca) t)(hF:F<64)(hG:G<64)(hc:BdOk c)(hq:PosOk q)(h78:q 78=0)
  (k:Int) (hk:A.kind c ((F:Int),(G:Int),p,d,ca)=k) (he:((k !=1)=false∧(d !=0)=false∧((G:Int)-F !=16)=false∧((F:Int)/8 !=1)=false)∨((k !=1)=false∧(d !=0)=false∧((G:Int)-F !=16)=false∧((F:Int)/8 !=1)=true∧((F:Int)/8 != -1)=false)∨((k !=1)=false∧(d !=0)=false∧((G:Int)-F !=16)=true∧((F:Int)-G !=16)=false∧((F:Int)/8 !=1)=false)∨((k !=1)=false∧(d !=0)=false∧((G:Int)-F !=16)=true∧((F:Int)-G !=16)=false∧((F:Int)/8 !=1)=true∧((F:Int)/8 != -1)=false)) (ez:(U (bAnd (R.pawn 0 (((F:Int)+G)/2)) (S.of (upd q 83 (-1)) 1 1)) !=0)=false):
  cR 56 #[.pointer (some ⟨b,0,none⟩)] w (.tuple #[]) fun w'=>A.Step b (A.pass c q ((F:Int),(G:Int),p,d,ca)) c ((F:Int),(G:Int),p,d,ca) t w w':=by
 have h78':upd q 83 (-1) 78=0:=h78
 rcases he with⟨e1,e2,e3,e5⟩|⟨e1,e2,e3,e5,e6⟩|⟨e1,e2,e3,e4,e5⟩|⟨e1,e2,e3,e4,e5,e6⟩
 all_goals
  have E:=hid (show A.pass c q ((F:Int),(G:Int),p,d,ca)=(upd q 83 (-1)) by
   rw [A.pass_no];intro h;have h1:=h.2.2.2.2;rw [h78']at h1;exact h1 (A.U_zero ez))
  have HK:Hid (∀W,A.MvAt W b (upd q 83 (-1)) c ((F:Int),(G:Int),p,d,ca) t→cB 131 #[.pointer (some ⟨b,0,none⟩)] W (.int .u8 k)):=hid (fun W h=>hk▸zI _ c F G p d ca t b W h hF hc)
  have hw3:IntKind.i8.wrap ((G:Int)-(F:Int))=(G:Int)-F:=by rw [IntKind.wrap_i8A];omega
  have hw4:IntKind.i8.wrap ((F:Int)-(G:Int))=(F:Int)-G:=by rw [IntKind.wrap_i8A];omega
  have hw5:IntKind.i8.wrap ((F:Int)+(G:Int))=(F:Int)+G:=by rw [IntKind.wrap_i8A];omega
  have hw6:IntKind.i8.wrap (((F:Int)+(G:Int)).tdiv 2)=((F:Int)+G)/2:=by rw [Int.tdiv_eq_ediv_of_nonneg om,IntKind.wrap_i8A];omega
  have hw7:wrap64 (((F:Int)+(G:Int))/2)=((F:Int)+G)/2:=by simp only [wrap64];omega
  have G0:=hid (World.grownBy.refl w (some b))
  have HQ:=hid (zw (A.posOk_upd hq 83 (-1) dc))
  have hp31:=underlying31
  clear hc hk
  go_enter func56,ntmps56
  go_upto_region 1 with((with_reducible refine zg rfl _ _ _ rfl ?_);refine⟨b,83,q,c,_,t,(-1),.i8,rfl,rfl,by decide,rfl,size_i8A,hM,?_⟩;intro W1 hP1 hM1)
  have G1:=hid (A.put_grown G0 hP1)
  have c176:W1.cell? ⟨b,176,none⟩=some (.int .i8 (F:Int)):=hM1.atm 0 _ rfl
  have c177:W1.cell? ⟨b,177,none⟩=some (.int .i8 (G:Int)):=hM1.atm 1 _ rfl
  have c179:W1.cell? ⟨b,179,none⟩=some (.int .u8 d):=hM1.atm 3 _ rfl
  have hbl:=hM1.lt
  clear hM hP1 G0
  simp only [Act.put]
  refine rB ?_
  repeat(first
   |go_big_quiet_step (first
    |(go_at_call 131;exact zd (HK _ (hM1.below (below_regrown _ _ _))))))
  refine wpQuiet_nil ?_
  intro w3 hb3
  have G2:=hid (A.below_step G1 hb3)
  have hM2:=hM1.below hb3
  clear c176 c177 c179 hbl hM1 hb3
  have c176:w3.cell? ⟨b,176,none⟩=some (.int .i8 (F:Int)):=hM2.atm 0 _ rfl
  have c177:w3.cell? ⟨b,177,none⟩=some (.int .i8 (G:Int)):=hM2.atm 1 _ rfl
  have c78:w3.cell? ⟨b,78,none⟩=some (.int .u8 0):=by rw [←h78];exact hM2.atq 78 dc .u8 rfl
  have hbl:=hM2.lt
  go_wp2_with fail
  refine rB ?_
  repeat(go_big_quiet_step (fail))
  refine wpQuiet_nil ?_
  intro w4 hb4
  have G3:=hid (A.below_step G2 hb4)
  have hM3:=hM2.below hb4
  clear c176 c177 c78 hbl hM2 hb4
  have c78:w4.cell? ⟨b,78,none⟩=some (.int .u8 0):=by rw [←h78];exact hM3.atq 78 dc .u8 rfl
  have hbl:=hM3.lt
  have hrg:=hM3.rq
  go_wp2_with fail
  refine rB ?_
  repeat(first
   |(go_big_quiet_want;refine zm 31 _ rfl hp31 rfl ⟨b,0,posL (upd q 83 (-1)),rfl,hrg,A.posL_info _,?_⟩;simp only [Act.put,sA,sB,sC];go_big_quiet_on)
   |go_big_quiet_step (first
    |(go_at_call 133;exact zd (za9 _ _ _))
    |(go_at_call 134;exact zd (zO (upd q 83 (-1)) _ _ _ HQ))))
  refine wpQuiet_nil ?_
  intro w5 hb5
  have G4:=hid (A.below_step G3 hb5)
  have hM4:=hM3.below hb5
  clear c78 hbl hM3 hb5 hrg
  go_wp2
  first|refine bodyPost_end (results_none rfl _ _ _) rfl ?_|refine bodyPost_ret (results_none rfl _ _ _) rfl ?_
  exact⟨rfl,⟨by rw [E.out];exact hM4,G4⟩⟩
theorem zbm(q c:Nat→Int)(F G:Nat)(p d:Int)(ca:Bool)(t:Int)(b:Nat)(w:World)(hM:A.MvAt w b q c ((F:Int),(G:Int),p,d,ca) t)(hF:F<64)(hG:G<64)(hc:BdOk c)(hq:PosOk q)(h78:q 78=0)
  (k:Int) (hk:A.kind c ((F:Int),(G:Int),p,d,ca)=k) (he:((k !=1)=false∧(d !=0)=false∧((G:Int)-F !=16)=false∧((F:Int)/8 !=1)=false)∨((k !=1)=false∧(d !=0)=false∧((G:Int)-F !=16)=false∧((F:Int)/8 !=1)=true∧((F:Int)/8 != -1)=false)∨((k !=1)=false∧(d !=0)=false∧((G:Int)-F !=16)=true∧((F:Int)-G !=16)=false∧((F:Int)/8 !=1)=false)∨((k !=1)=false∧(d !=0)=false∧((G:Int)-F !=16)=true∧((F:Int)-G !=16)=false∧((F:Int)/8 !=1)=true∧((F:Int)/8 != -1)=false)) (ez:(U (bAnd (R.pawn 0 (((F:Int)+G)/2)) (S.of (upd q 83 (-1)) 1 1)) !=0)=true):
  cR 56 #[.pointer (some ⟨b,0,none⟩)] w (.tuple #[]) fun w'=>A.Step b (A.pass c q ((F:Int),(G:Int),p,d,ca)) c ((F:Int),(G:Int),p,d,ca) t w w':=by
 have h78':upd q 83 (-1) 78=0:=h78
 rcases he with⟨e1,e2,e3,e5⟩|⟨e1,e2,e3,e5,e6⟩|⟨e1,e2,e3,e4,e5⟩|⟨e1,e2,e3,e4,e5,e6⟩
 all_goals
  have E:=hid (show A.pass c q ((F:Int),(G:Int),p,d,ca)=(upd (upd q 83 (-1)) 83 (((F:Int)+G)/2)) by
   rw [A.pass_yes]
   refine⟨by rw [hk];simpa using e1,by simpa using e2,by first|exact .inl (by simpa using e3)|exact .inr (by simpa using e4),?_,?_⟩
   ·rw [h78'];first|(have:=e6;simp at this;exact .inr (by show(F:Int)/8=_;omega))|(have:=e5;simp at this;exact .inl (by show(F:Int)/8=_;omega))
   ·rw [h78'];exact A.U_ne ez)
  have HK:Hid (∀W,A.MvAt W b (upd q 83 (-1)) c ((F:Int),(G:Int),p,d,ca) t→cB 131 #[.pointer (some ⟨b,0,none⟩)] W (.int .u8 k)):=hid (fun W h=>hk▸zI _ c F G p d ca t b W h hF hc)
  have hw3:IntKind.i8.wrap ((G:Int)-(F:Int))=(G:Int)-F:=by rw [IntKind.wrap_i8A];omega
  have hw4:IntKind.i8.wrap ((F:Int)-(G:Int))=(F:Int)-G:=by rw [IntKind.wrap_i8A];omega
  have hw5:IntKind.i8.wrap ((F:Int)+(G:Int))=(F:Int)+G:=by rw [IntKind.wrap_i8A];omega
  have hw6:IntKind.i8.wrap (((F:Int)+(G:Int)).tdiv 2)=((F:Int)+G)/2:=by rw [Int.tdiv_eq_ediv_of_nonneg om,IntKind.wrap_i8A];omega
  have hw7:wrap64 (((F:Int)+(G:Int))/2)=((F:Int)+G)/2:=by simp only [wrap64];omega
  have G0:=hid (World.grownBy.refl w (some b))
  have HQ:=hid (zw (A.posOk_upd hq 83 (-1) dc))
  have hp31:=underlying31
  clear hc hk
  go_enter func56,ntmps56
  go_upto_region 1 with((with_reducible refine zg rfl _ _ _ rfl ?_);refine⟨b,83,q,c,_,t,(-1),.i8,rfl,rfl,by decide,rfl,size_i8A,hM,?_⟩;intro W1 hP1 hM1)
  have G1:=hid (A.put_grown G0 hP1)
  have c176:W1.cell? ⟨b,176,none⟩=some (.int .i8 (F:Int)):=hM1.atm 0 _ rfl
  have c177:W1.cell? ⟨b,177,none⟩=some (.int .i8 (G:Int)):=hM1.atm 1 _ rfl
  have c179:W1.cell? ⟨b,179,none⟩=some (.int .u8 d):=hM1.atm 3 _ rfl
  have hbl:=hM1.lt
  clear hM hP1 G0
  simp only [Act.put]
  refine rB ?_
  repeat(first
   |go_big_quiet_step (first
    |(go_at_call 131;exact zd (HK _ (hM1.below (below_regrown _ _ _))))))
  refine wpQuiet_nil ?_
  intro w3 hb3
  have G2:=hid (A.below_step G1 hb3)
  have hM2:=hM1.below hb3
  clear c176 c177 c179 hbl hM1 hb3
  have c176:w3.cell? ⟨b,176,none⟩=some (.int .i8 (F:Int)):=hM2.atm 0 _ rfl
  have c177:w3.cell? ⟨b,177,none⟩=some (.int .i8 (G:Int)):=hM2.atm 1 _ rfl
  have c78:w3.cell? ⟨b,78,none⟩=some (.int .u8 0):=by rw [←h78];exact hM2.atq 78 dc .u8 rfl
  have hbl:=hM2.lt
  go_wp2_with fail
  refine rB ?_
  repeat(go_big_quiet_step (fail))
  refine wpQuiet_nil ?_
  intro w4 hb4
  have G3:=hid (A.below_step G2 hb4)
  have hM3:=hM2.below hb4
  clear c176 c177 c78 hbl hM2 hb4
  have c78:w4.cell? ⟨b,78,none⟩=some (.int .u8 0):=by rw [←h78];exact hM3.atq 78 dc .u8 rfl
  have hbl:=hM3.lt
  have hrg:=hM3.rq
  go_wp2_with fail
  refine rB ?_
  repeat(first
   |(go_big_quiet_want;refine zm 31 _ rfl hp31 rfl ⟨b,0,posL (upd q 83 (-1)),rfl,hrg,A.posL_info _,?_⟩;simp only [Act.put,sA,sB,sC];go_big_quiet_on)
   |go_big_quiet_step (first
    |(go_at_call 133;exact zd (za9 _ _ _))
    |(go_at_call 134;exact zd (zO (upd q 83 (-1)) _ _ _ HQ))))
  refine wpQuiet_nil ?_
  intro w5 hb5
  have G4:=hid (A.below_step G3 hb5)
  have hM4:=hM3.below hb5
  clear c78 hbl hM3 hb5 hrg
  go_wp2_with ((with_reducible refine zg rfl _ _ _ rfl ?_);refine⟨b,83,_,c,_,t,_,.i8,rfl,rfl,by decide,rfl,size_i8A,hM4,?_⟩;intro W6 hP6 hM6)
  first|refine bodyPost_end (results_none rfl _ _ _) rfl ?_|refine bodyPost_ret (results_none rfl _ _ _) rfl ?_
  exact⟨rfl,⟨by rw [E.out];exact hM6,A.put_grown G4 hP6⟩⟩
theorem zaS(q c:Nat→Int)(F G:Nat)(p d:Int)(ca:Bool)(t:Int)(b:Nat)(w:World)(hM:A.MvAt w b q c ((F:Int),(G:Int),p,d,ca) t)(hF:F<64)(hG:G<64)(hc:BdOk c)(hq:PosOk q)(h78:q 78=1)
  (k:Int) (hk:A.kind c ((F:Int),(G:Int),p,d,ca)=k) (he:((k !=1)=true)∨((k !=1)=false∧(d !=0)=true)∨((k !=1)=false∧(d !=0)=false∧((G:Int)-F !=16)=true∧((F:Int)-G !=16)=true)∨((k !=1)=false∧(d !=0)=false∧((G:Int)-F !=16)=false∧((F:Int)/8 !=8)=true∧((F:Int)/8 !=6)=true)∨((k !=1)=false∧(d !=0)=false∧((G:Int)-F !=16)=true∧((F:Int)-G !=16)=false∧((F:Int)/8 !=8)=true∧((F:Int)/8 !=6)=true)):
  cR 56 #[.pointer (some ⟨b,0,none⟩)] w (.tuple #[]) fun w'=>A.Step b (A.pass c q ((F:Int),(G:Int),p,d,ca)) c ((F:Int),(G:Int),p,d,ca) t w w':=by
 have h78':upd q 83 (-1) 78=1:=h78
 rcases he with e1|⟨e1,e2⟩|⟨e1,e2,e3,e4⟩|⟨e1,e2,e3,e5,e6⟩|⟨e1,e2,e3,e4,e5,e6⟩
 all_goals
  have E:=hid (show A.pass c q ((F:Int),(G:Int),p,d,ca)=(upd q 83 (-1)) by
   rw [A.pass_no]
   intro h
   first
    |(have h1:=h.2.2.2.1;rw [h78']at h1;change(F:Int)/8=_∨(F:Int)/8=_ at h1;simp at e5 e6;omega)
    |(have h1:=h.2.2.1;change(G:Int)-F=16∨(F:Int)-G=16 at h1;simp at e3 e4;omega)
    |(have h1:=h.2.1;change d=0 at h1;rw [h1]at e2;cases e2)
    |(have h1:=h.1;rw [hk]at h1;rw [h1]at e1;cases e1))
  have HK:Hid (∀W,A.MvAt W b (upd q 83 (-1)) c ((F:Int),(G:Int),p,d,ca) t→cB 131 #[.pointer (some ⟨b,0,none⟩)] W (.int .u8 k)):=hid (fun W h=>hk▸zI _ c F G p d ca t b W h hF hc)
  have hw3:IntKind.i8.wrap ((G:Int)-(F:Int))=(G:Int)-F:=by rw [IntKind.wrap_i8A];omega
  have hw4:IntKind.i8.wrap ((F:Int)-(G:Int))=(F:Int)-G:=by rw [IntKind.wrap_i8A];omega
  have hw5:IntKind.i8.wrap ((F:Int)+(G:Int))=(F:Int)+G:=by rw [IntKind.wrap_i8A];omega
  have hw6:IntKind.i8.wrap (((F:Int)+(G:Int)).tdiv 2)=((F:Int)+G)/2:=by rw [Int.tdiv_eq_ediv_of_nonneg om,IntKind.wrap_i8A];omega
  have hw7:wrap64 (((F:Int)+(G:Int))/2)=((F:Int)+G)/2:=by simp only [wrap64];omega
  have G0:=hid (World.grownBy.refl w (some b))
  have HQ:=hid (zw (A.posOk_upd hq 83 (-1) dc))
  have hp31:=underlying31
  clear hc hk
  go_enter func56,ntmps56
  go_upto_region 1 with((with_reducible refine zg rfl _ _ _ rfl ?_);refine⟨b,83,q,c,_,t,(-1),.i8,rfl,rfl,by decide,rfl,size_i8A,hM,?_⟩;intro W1 hP1 hM1)
  have G1:=hid (A.put_grown G0 hP1)
  have c176:W1.cell? ⟨b,176,none⟩=some (.int .i8 (F:Int)):=hM1.atm 0 _ rfl
  have c177:W1.cell? ⟨b,177,none⟩=some (.int .i8 (G:Int)):=hM1.atm 1 _ rfl
  have c179:W1.cell? ⟨b,179,none⟩=some (.int .u8 d):=hM1.atm 3 _ rfl
  have hbl:=hM1.lt
  clear hM hP1 G0
  simp only [Act.put]
  refine rB ?_
  repeat(first
   |go_big_quiet_step (first
    |(go_at_call 131;exact zd (HK _ (hM1.below (below_regrown _ _ _))))))
  refine wpQuiet_nil ?_
  intro w3 hb3
  have G2:=hid (A.below_step G1 hb3)
  have hM2:=hM1.below hb3
  clear c176 c177 c179 hbl hM1 hb3
  have c176:w3.cell? ⟨b,176,none⟩=some (.int .i8 (F:Int)):=hM2.atm 0 _ rfl
  have c177:w3.cell? ⟨b,177,none⟩=some (.int .i8 (G:Int)):=hM2.atm 1 _ rfl
  have c78:w3.cell? ⟨b,78,none⟩=some (.int .u8 1):=by rw [←h78];exact hM2.atq 78 dc .u8 rfl
  go_wp2
  first|refine bodyPost_end (results_none rfl _ _ _) rfl ?_|refine bodyPost_ret (results_none rfl _ _ _) rfl ?_
  exact⟨rfl,⟨by rw [E.out];exact hM2,G2⟩⟩
theorem zbC(q c:Nat→Int)(F G:Nat)(p d:Int)(ca:Bool)(t:Int)(b:Nat)(w:World)(hM:A.MvAt w b q c ((F:Int),(G:Int),p,d,ca) t)(hF:F<64)(hG:G<64)(hc:BdOk c)(hq:PosOk q)(h78:q 78=1)
  (k:Int) (hk:A.kind c ((F:Int),(G:Int),p,d,ca)=k) (he:((k !=1)=false∧(d !=0)=false∧((G:Int)-F !=16)=false∧((F:Int)/8 !=8)=false)∨((k !=1)=false∧(d !=0)=false∧((G:Int)-F !=16)=false∧((F:Int)/8 !=8)=true∧((F:Int)/8 !=6)=false)∨((k !=1)=false∧(d !=0)=false∧((G:Int)-F !=16)=true∧((F:Int)-G !=16)=false∧((F:Int)/8 !=8)=false)∨((k !=1)=false∧(d !=0)=false∧((G:Int)-F !=16)=true∧((F:Int)-G !=16)=false∧((F:Int)/8 !=8)=true∧((F:Int)/8 !=6)=false)) (ez:(U (bAnd (R.pawn 1 (((F:Int)+G)/2)) (S.of (upd q 83 (-1)) 0 1)) !=0)=false):
  cR 56 #[.pointer (some ⟨b,0,none⟩)] w (.tuple #[]) fun w'=>A.Step b (A.pass c q ((F:Int),(G:Int),p,d,ca)) c ((F:Int),(G:Int),p,d,ca) t w w':=by
 have h78':upd q 83 (-1) 78=1:=h78
 rcases he with⟨e1,e2,e3,e5⟩|⟨e1,e2,e3,e5,e6⟩|⟨e1,e2,e3,e4,e5⟩|⟨e1,e2,e3,e4,e5,e6⟩
 all_goals
  have E:=hid (show A.pass c q ((F:Int),(G:Int),p,d,ca)=(upd q 83 (-1)) by
   rw [A.pass_no];intro h;have h1:=h.2.2.2.2;rw [h78']at h1;exact h1 (A.U_zero ez))
  have HK:Hid (∀W,A.MvAt W b (upd q 83 (-1)) c ((F:Int),(G:Int),p,d,ca) t→cB 131 #[.pointer (some ⟨b,0,none⟩)] W (.int .u8 k)):=hid (fun W h=>hk▸zI _ c F G p d ca t b W h hF hc)
  have hw3:IntKind.i8.wrap ((G:Int)-(F:Int))=(G:Int)-F:=by rw [IntKind.wrap_i8A];omega
  have hw4:IntKind.i8.wrap ((F:Int)-(G:Int))=(F:Int)-G:=by rw [IntKind.wrap_i8A];omega
  have hw5:IntKind.i8.wrap ((F:Int)+(G:Int))=(F:Int)+G:=by rw [IntKind.wrap_i8A];omega
  have hw6:IntKind.i8.wrap (((F:Int)+(G:Int)).tdiv 2)=((F:Int)+G)/2:=by rw [Int.tdiv_eq_ediv_of_nonneg om,IntKind.wrap_i8A];omega
  have hw7:wrap64 (((F:Int)+(G:Int))/2)=((F:Int)+G)/2:=by simp only [wrap64];omega
  have G0:=hid (World.grownBy.refl w (some b))
  have HQ:=hid (zw (A.posOk_upd hq 83 (-1) dc))
  have hp31:=underlying31
  clear hc hk
  go_enter func56,ntmps56
  go_upto_region 1 with((with_reducible refine zg rfl _ _ _ rfl ?_);refine⟨b,83,q,c,_,t,(-1),.i8,rfl,rfl,by decide,rfl,size_i8A,hM,?_⟩;intro W1 hP1 hM1)
  have G1:=hid (A.put_grown G0 hP1)
  have c176:W1.cell? ⟨b,176,none⟩=some (.int .i8 (F:Int)):=hM1.atm 0 _ rfl
  have c177:W1.cell? ⟨b,177,none⟩=some (.int .i8 (G:Int)):=hM1.atm 1 _ rfl
  have c179:W1.cell? ⟨b,179,none⟩=some (.int .u8 d):=hM1.atm 3 _ rfl
  have hbl:=hM1.lt
  clear hM hP1 G0
  simp only [Act.put]
  refine rB ?_
  repeat(first
   |go_big_quiet_step (first
    |(go_at_call 131;exact zd (HK _ (hM1.below (below_regrown _ _ _))))))
  refine wpQuiet_nil ?_
  intro w3 hb3
  have G2:=hid (A.below_step G1 hb3)
  have hM2:=hM1.below hb3
  clear c176 c177 c179 hbl hM1 hb3
  have c176:w3.cell? ⟨b,176,none⟩=some (.int .i8 (F:Int)):=hM2.atm 0 _ rfl
  have c177:w3.cell? ⟨b,177,none⟩=some (.int .i8 (G:Int)):=hM2.atm 1 _ rfl
  have c78:w3.cell? ⟨b,78,none⟩=some (.int .u8 1):=by rw [←h78];exact hM2.atq 78 dc .u8 rfl
  have hbl:=hM2.lt
  go_wp2_with fail
  refine rB ?_
  repeat(go_big_quiet_step (fail))
  refine wpQuiet_nil ?_
  intro w4 hb4
  have G3:=hid (A.below_step G2 hb4)
  have hM3:=hM2.below hb4
  clear c176 c177 c78 hbl hM2 hb4
  have c78:w4.cell? ⟨b,78,none⟩=some (.int .u8 1):=by rw [←h78];exact hM3.atq 78 dc .u8 rfl
  have hbl:=hM3.lt
  have hrg:=hM3.rq
  go_wp2_with fail
  refine rB ?_
  repeat(first
   |(go_big_quiet_want;refine zm 31 _ rfl hp31 rfl ⟨b,0,posL (upd q 83 (-1)),rfl,hrg,A.posL_info _,?_⟩;simp only [Act.put,sA,sB,sC];go_big_quiet_on)
   |go_big_quiet_step (first
    |(go_at_call 133;exact zd (za9 _ _ _))
    |(go_at_call 134;exact zd (zO (upd q 83 (-1)) _ _ _ HQ))))
  refine wpQuiet_nil ?_
  intro w5 hb5
  have G4:=hid (A.below_step G3 hb5)
  have hM4:=hM3.below hb5
  clear c78 hbl hM3 hb5 hrg
  go_wp2
  first|refine bodyPost_end (results_none rfl _ _ _) rfl ?_|refine bodyPost_ret (results_none rfl _ _ _) rfl ?_
  exact⟨rfl,⟨by rw [E.out];exact hM4,G4⟩⟩
theorem zbx(q c:Nat→Int)(F G:Nat)(p d:Int)(ca:Bool)(t:Int)(b:Nat)(w:World)(hM:A.MvAt w b q c ((F:Int),(G:Int),p,d,ca) t)(hF:F<64)(hG:G<64)(hc:BdOk c)(hq:PosOk q)(h78:q 78=1)
  (k:Int) (hk:A.kind c ((F:Int),(G:Int),p,d,ca)=k) (he:((k !=1)=false∧(d !=0)=false∧((G:Int)-F !=16)=false∧((F:Int)/8 !=8)=false)∨((k !=1)=false∧(d !=0)=false∧((G:Int)-F !=16)=false∧((F:Int)/8 !=8)=true∧((F:Int)/8 !=6)=false)∨((k !=1)=false∧(d !=0)=false∧((G:Int)-F !=16)=true∧((F:Int)-G !=16)=false∧((F:Int)/8 !=8)=false)∨((k !=1)=false∧(d !=0)=false∧((G:Int)-F !=16)=true∧((F:Int)-G !=16)=false∧((F:Int)/8 !=8)=true∧((F:Int)/8 !=6)=false)) (ez:(U (bAnd (R.pawn 1 (((F:Int)+G)/2)) (S.of (upd q 83 (-1)) 0 1)) !=0)=true):
  cR 56 #[.pointer (some ⟨b,0,none⟩)] w (.tuple #[]) fun w'=>A.Step b (A.pass c q ((F:Int),(G:Int),p,d,ca)) c ((F:Int),(G:Int),p,d,ca) t w w':=by
 have h78':upd q 83 (-1) 78=1:=h78
 rcases he with⟨e1,e2,e3,e5⟩|⟨e1,e2,e3,e5,e6⟩|⟨e1,e2,e3,e4,e5⟩|⟨e1,e2,e3,e4,e5,e6⟩
 all_goals
  have E:=hid (show A.pass c q ((F:Int),(G:Int),p,d,ca)=(upd (upd q 83 (-1)) 83 (((F:Int)+G)/2)) by
   rw [A.pass_yes]
   refine⟨by rw [hk];simpa using e1,by simpa using e2,by first|exact .inl (by simpa using e3)|exact .inr (by simpa using e4),?_,?_⟩
   ·rw [h78'];first|(have:=e6;simp at this;exact .inr (by show(F:Int)/8=_;omega))|(have:=e5;simp at this;exact .inl (by show(F:Int)/8=_;omega))
   ·rw [h78'];exact A.U_ne ez)
  have HK:Hid (∀W,A.MvAt W b (upd q 83 (-1)) c ((F:Int),(G:Int),p,d,ca) t→cB 131 #[.pointer (some ⟨b,0,none⟩)] W (.int .u8 k)):=hid (fun W h=>hk▸zI _ c F G p d ca t b W h hF hc)
  have hw3:IntKind.i8.wrap ((G:Int)-(F:Int))=(G:Int)-F:=by rw [IntKind.wrap_i8A];omega
  have hw4:IntKind.i8.wrap ((F:Int)-(G:Int))=(F:Int)-G:=by rw [IntKind.wrap_i8A];omega
  have hw5:IntKind.i8.wrap ((F:Int)+(G:Int))=(F:Int)+G:=by rw [IntKind.wrap_i8A];omega
  have hw6:IntKind.i8.wrap (((F:Int)+(G:Int)).tdiv 2)=((F:Int)+G)/2:=by rw [Int.tdiv_eq_ediv_of_nonneg om,IntKind.wrap_i8A];omega
  have hw7:wrap64 (((F:Int)+(G:Int))/2)=((F:Int)+G)/2:=by simp only [wrap64];omega
  have G0:=hid (World.grownBy.refl w (some b))
  have HQ:=hid (zw (A.posOk_upd hq 83 (-1) dc))
  have hp31:=underlying31
  clear hc hk
  go_enter func56,ntmps56
  go_upto_region 1 with((with_reducible refine zg rfl _ _ _ rfl ?_);refine⟨b,83,q,c,_,t,(-1),.i8,rfl,rfl,by decide,rfl,size_i8A,hM,?_⟩;intro W1 hP1 hM1)
  have G1:=hid (A.put_grown G0 hP1)
  have c176:W1.cell? ⟨b,176,none⟩=some (.int .i8 (F:Int)):=hM1.atm 0 _ rfl
  have c177:W1.cell? ⟨b,177,none⟩=some (.int .i8 (G:Int)):=hM1.atm 1 _ rfl
  have c179:W1.cell? ⟨b,179,none⟩=some (.int .u8 d):=hM1.atm 3 _ rfl
  have hbl:=hM1.lt
  clear hM hP1 G0
  simp only [Act.put]
  refine rB ?_
  repeat(first
   |go_big_quiet_step (first
    |(go_at_call 131;exact zd (HK _ (hM1.below (below_regrown _ _ _))))))
  refine wpQuiet_nil ?_
  intro w3 hb3
  have G2:=hid (A.below_step G1 hb3)
  have hM2:=hM1.below hb3
  clear c176 c177 c179 hbl hM1 hb3
  have c176:w3.cell? ⟨b,176,none⟩=some (.int .i8 (F:Int)):=hM2.atm 0 _ rfl
  have c177:w3.cell? ⟨b,177,none⟩=some (.int .i8 (G:Int)):=hM2.atm 1 _ rfl
  have c78:w3.cell? ⟨b,78,none⟩=some (.int .u8 1):=by rw [←h78];exact hM2.atq 78 dc .u8 rfl
  have hbl:=hM2.lt
  go_wp2_with fail
  refine rB ?_
  repeat(go_big_quiet_step (fail))
  refine wpQuiet_nil ?_
  intro w4 hb4
  have G3:=hid (A.below_step G2 hb4)
  have hM3:=hM2.below hb4
  clear c176 c177 c78 hbl hM2 hb4
  have c78:w4.cell? ⟨b,78,none⟩=some (.int .u8 1):=by rw [←h78];exact hM3.atq 78 dc .u8 rfl
  have hbl:=hM3.lt
  have hrg:=hM3.rq
  go_wp2_with fail
  refine rB ?_
  repeat(first
   |(go_big_quiet_want;refine zm 31 _ rfl hp31 rfl ⟨b,0,posL (upd q 83 (-1)),rfl,hrg,A.posL_info _,?_⟩;simp only [Act.put,sA,sB,sC];go_big_quiet_on)
   |go_big_quiet_step (first
    |(go_at_call 133;exact zd (za9 _ _ _))
    |(go_at_call 134;exact zd (zO (upd q 83 (-1)) _ _ _ HQ))))
  refine wpQuiet_nil ?_
  intro w5 hb5
  have G4:=hid (A.below_step G3 hb5)
  have hM4:=hM3.below hb5
  clear c78 hbl hM3 hb5 hrg
  go_wp2_with ((with_reducible refine zg rfl _ _ _ rfl ?_);refine⟨b,83,_,c,_,t,_,.i8,rfl,rfl,by decide,rfl,size_i8A,hM4,?_⟩;intro W6 hP6 hM6)
  first|refine bodyPost_end (results_none rfl _ _ _) rfl ?_|refine bodyPost_ret (results_none rfl _ _ _) rfl ?_
  exact⟨rfl,⟨by rw [E.out];exact hM6,A.put_grown G4 hP6⟩⟩
theorem zgf(q c:Nat→Int)(F G:Nat)(p d:Int)(ca:Bool)(t:Int)(b:Nat)(w:World)(hM:A.MvAt w b q c ((F:Int),(G:Int),p,d,ca) t)(hF:F<64)(hG:G<64)(hc:BdOk c)(hq:PosOk q)(h78:q 78≤1):
  cR 56 #[.pointer (some ⟨b,0,none⟩)] w (.tuple #[]) fun w'=>A.Step b (A.pass c q ((F:Int),(G:Int),p,d,ca)) c ((F:Int),(G:Int),p,d,ca) t w w':=by
 obtain⟨l,_⟩:=zp hq (i:=78) dc rfl
 rcases(show q 78=0∨q 78=1 by omega)with h|h
 ·cases e1:(A.kind c ((F:Int),(G:Int),p,d,ca) !=1)
  ·cases e2:(d !=0)
   ·cases e3:((G:Int)-F !=16)
    ·cases e5:((F:Int)/8 !=1)
     ·cases ez:(U (bAnd (R.pawn 0 (((F:Int)+G)/2)) (S.of (upd q 83 (-1)) 1 1)) !=0)
      ·exact zbA q c F G p d ca t b w hM hF hG hc hq h _ rfl (.inl ⟨e1,e2,e3,e5⟩) ez
      ·exact zbm q c F G p d ca t b w hM hF hG hc hq h _ rfl (.inl ⟨e1,e2,e3,e5⟩) ez
     ·cases e6:((F:Int)/8 != -1)
      ·cases ez:(U (bAnd (R.pawn 0 (((F:Int)+G)/2)) (S.of (upd q 83 (-1)) 1 1)) !=0)
       ·exact zbA q c F G p d ca t b w hM hF hG hc hq h _ rfl (.inr (.inl ⟨e1,e2,e3,e5,e6⟩)) ez
       ·exact zbm q c F G p d ca t b w hM hF hG hc hq h _ rfl (.inr (.inl ⟨e1,e2,e3,e5,e6⟩)) ez
      ·exact zaU q c F G p d ca t b w hM hF hG hc hq h _ rfl (.inr (.inr (.inr (.inl ⟨e1,e2,e3,e5,e6⟩))))
    ·cases e4:((F:Int)-G !=16)
     ·cases e5:((F:Int)/8 !=1)
      ·cases ez:(U (bAnd (R.pawn 0 (((F:Int)+G)/2)) (S.of (upd q 83 (-1)) 1 1)) !=0)
       ·exact zbA q c F G p d ca t b w hM hF hG hc hq h _ rfl (.inr (.inr (.inl ⟨e1,e2,e3,e4,e5⟩))) ez
       ·exact zbm q c F G p d ca t b w hM hF hG hc hq h _ rfl (.inr (.inr (.inl ⟨e1,e2,e3,e4,e5⟩))) ez
      ·cases e6:((F:Int)/8 != -1)
       ·cases ez:(U (bAnd (R.pawn 0 (((F:Int)+G)/2)) (S.of (upd q 83 (-1)) 1 1)) !=0)
        ·exact zbA q c F G p d ca t b w hM hF hG hc hq h _ rfl (.inr (.inr (.inr (⟨e1,e2,e3,e4,e5,e6⟩)))) ez
        ·exact zbm q c F G p d ca t b w hM hF hG hc hq h _ rfl (.inr (.inr (.inr (⟨e1,e2,e3,e4,e5,e6⟩)))) ez
       ·exact zaU q c F G p d ca t b w hM hF hG hc hq h _ rfl (.inr (.inr (.inr (.inr (⟨e1,e2,e3,e4,e5,e6⟩)))))
     ·exact zaU q c F G p d ca t b w hM hF hG hc hq h _ rfl (.inr (.inr (.inl ⟨e1,e2,e3,e4⟩)))
   ·exact zaU q c F G p d ca t b w hM hF hG hc hq h _ rfl (.inr (.inl ⟨e1,e2⟩))
  ·exact zaU q c F G p d ca t b w hM hF hG hc hq h _ rfl (.inl e1)
 ·cases e1:(A.kind c ((F:Int),(G:Int),p,d,ca) !=1)
  ·cases e2:(d !=0)
   ·cases e3:((G:Int)-F !=16)
    ·cases e5:((F:Int)/8 !=8)
     ·cases ez:(U (bAnd (R.pawn 1 (((F:Int)+G)/2)) (S.of (upd q 83 (-1)) 0 1)) !=0)
      ·exact zbC q c F G p d ca t b w hM hF hG hc hq h _ rfl (.inl ⟨e1,e2,e3,e5⟩) ez
      ·exact zbx q c F G p d ca t b w hM hF hG hc hq h _ rfl (.inl ⟨e1,e2,e3,e5⟩) ez
     ·cases e6:((F:Int)/8 !=6)
      ·cases ez:(U (bAnd (R.pawn 1 (((F:Int)+G)/2)) (S.of (upd q 83 (-1)) 0 1)) !=0)
       ·exact zbC q c F G p d ca t b w hM hF hG hc hq h _ rfl (.inr (.inl ⟨e1,e2,e3,e5,e6⟩)) ez
       ·exact zbx q c F G p d ca t b w hM hF hG hc hq h _ rfl (.inr (.inl ⟨e1,e2,e3,e5,e6⟩)) ez
      ·exact zaS q c F G p d ca t b w hM hF hG hc hq h _ rfl (.inr (.inr (.inr (.inl ⟨e1,e2,e3,e5,e6⟩))))
    ·cases e4:((F:Int)-G !=16)
     ·cases e5:((F:Int)/8 !=8)
      ·cases ez:(U (bAnd (R.pawn 1 (((F:Int)+G)/2)) (S.of (upd q 83 (-1)) 0 1)) !=0)
       ·exact zbC q c F G p d ca t b w hM hF hG hc hq h _ rfl (.inr (.inr (.inl ⟨e1,e2,e3,e4,e5⟩))) ez
       ·exact zbx q c F G p d ca t b w hM hF hG hc hq h _ rfl (.inr (.inr (.inl ⟨e1,e2,e3,e4,e5⟩))) ez
      ·cases e6:((F:Int)/8 !=6)
       ·cases ez:(U (bAnd (R.pawn 1 (((F:Int)+G)/2)) (S.of (upd q 83 (-1)) 0 1)) !=0)
        ·exact zbC q c F G p d ca t b w hM hF hG hc hq h _ rfl (.inr (.inr (.inr (⟨e1,e2,e3,e4,e5,e6⟩)))) ez
        ·exact zbx q c F G p d ca t b w hM hF hG hc hq h _ rfl (.inr (.inr (.inr (⟨e1,e2,e3,e4,e5,e6⟩)))) ez
       ·exact zaS q c F G p d ca t b w hM hF hG hc hq h _ rfl (.inr (.inr (.inr (.inr (⟨e1,e2,e3,e4,e5,e6⟩)))))
     ·exact zaS q c F G p d ca t b w hM hF hG hc hq h _ rfl (.inr (.inr (.inl ⟨e1,e2,e3,e4⟩)))
   ·exact zaS q c F G p d ca t b w hM hF hG hc hq h _ rfl (.inr (.inl ⟨e1,e2⟩))
  ·exact zaS q c F G p d ca t b w hM hF hG hc hq h _ rfl (.inl e1)
end Go.Proofs.YtbakeajgolhkgaaGreatDoor
