import Derived.Test.YtbakeajgolhkgaaGreatDoorYaw
import Derived.Test.YtbakeajgolhkgaaGreatDoorYay
import Derived.Test.YtbakeajgolhkgaaGreatDoorYax
set_option maxRecDepth 100000
set_option maxHeartbeats 8000000
open Go.Lib (hid)
namespace Go.Proofs.YtbakeajgolhkgaaGreatDoor
open Go.Proofs.Tryz
section
open Go.RowKit Go.Sort
attribute [local go_sem] Oper.semAt_some
theorem A.kind_b(x:Int)(w:World)(h0:0≤x)(h1:x≤255):cB 122 #[.int .u8 x] w (.int .u8 (P.kind x)):=
 (zaF x w h0 h1).mono (by rintro e w' ⟨h,rfl⟩;exact⟨h,Below.refl _ _⟩)
theorem zbe{c q:Nat→Int}{m:Mv}{t:Int}{b Bx:Nat}(s:Nat){w:World}{d:Nat}{os:Array Obj}{v:Bool}(hM:A.MvAt w b q c m t)(hB:w.cell? ⟨Bx,0,none⟩=some (.pointer (some ⟨b,0,none⟩)))(hc:PosOk c)(hs:s<64)(hv:A.mark c (s:Int)=v):
  Calls prog 127 #[.int .i64 (s:Int),.pointer (some ⟨Bx,0,none⟩)] (grow (redrawn w d) os) fun e w'=>e= .returned (.bool v)∧Below (grow (redrawn w d) os).heap.size (grow (redrawn w d) os) w':=by
 have hb:=below_regrown w d os
 refine(zR c q m t b Bx s _ (hM.below hb) ((hb.cell (p:=⟨Bx,0,none⟩) (World.block_lt_of_cell? w _ hB)).trans hB) hc hs).mono ?_
 rintro e w' ⟨rfl,rfl⟩
 exact⟨by rw [hv],Below.refl _ _⟩
theorem zda(q c:Nat→Int)(F G:Nat)(p:Int)(t:Int)(b:Nat)(w:World)(hM:A.MvAt w b q c ((F:Int),(G:Int),p,0,false) t)(hF64:F<64)(hG64:G<64)(hc:PosOk c)(hq:PosOk q)(d1:(q 0 !=2)=false)(dt:decide (0≤t)=false):
  cR 53 #[.pointer (some ⟨b,0,none⟩)] w (.tuple #[]) fun w'=>A.Step b (A.pocket c q ((F:Int),(G:Int),p,0,false) t) c ((F:Int),(G:Int),p,0,false) t w w':=by
 have ET:=hid (show A.pocketT c q t=q by unfold A.pocketT;rw [if_neg (by simpa using dt)])
 have HO2:=hid (A.ok_pocketT hq c t)
 have HO3:=hid (A.ok_mark HO2 (bAndn (A.bs (A.pocketT c q t 65)) (B.one (F:Int))))
 have hp31:=underlying31
 have HC:=hid hc
 have HQ0:=hid hq
 have hwF:IntKind.i64.wrap (F:Int)=(F:Int):=by rw [IntKind.wrap_i64];omega
 have hwF':wrap64 (F:Int)=(F:Int):=by simp only [wrap64];omega
 have hwG:IntKind.i64.wrap (G:Int)=(G:Int):=by rw [IntKind.wrap_i64];omega
 have hwG':wrap64 (G:Int)=(G:Int):=by simp only [wrap64];omega
 have hM1:=hM.alloc (.cells #[.pointer (some ⟨b,0,none⟩)] 106)
 have hB1:(w.alloc (.cells #[.pointer (some ⟨b,0,none⟩)] 106)).cell? ⟨w.heap.size,0,none⟩=some (.pointer (some ⟨b,0,none⟩)):=by
  rw [(RowAt.new w #[.pointer (some ⟨b,0,none⟩)] 106).cell];rfl
 have hG1:w.grownBy (w.alloc (.cells #[.pointer (some ⟨b,0,none⟩)] 106)) (some b):=A.below_step (World.grownBy.refl w _) bA
 have hbl:=hM.lt
 obtain⟨Bx,hBe⟩:∃Bx,w.heap.size=Bx:=⟨_,rfl⟩
 have hBb:Bx≠b:=by omega
 clear hc hq
 go_enter func53,ntmps53
 go_upto_region 1 with fail
 obtain⟨w1,hW1⟩:∃w1,w.alloc (.cells #[.pointer (some ⟨b,0,none⟩)] 106)=w1:=⟨_,rfl⟩
 try rw [hBe]at hB1
 try rw [hBe]
 rw [hW1]at hM1 hB1 hG1⊢
 clear hM hW1 hbl
 have h0:w1.cell? ⟨b,0,none⟩=some (.int .u8 (q 0)):=hM1.atq 0 dc .u8 rfl
 have h179:w1.cell? ⟨b,179,none⟩=some (.int .u8 0):=hM1.atm 3 _ rfl
 have h180:w1.cell? ⟨b,180,none⟩=some (.bool false):=hM1.atm 4 _ rfl
 have h181:=hM1.att
 have hbl:=hM1.lt
 have hbB:=World.block_lt_of_cell? w1 _ hB1
 go_upto_region 14 with fail
 clear h0 h179 h180 h181 hbl hbB
 have hM7:=hM1
 have hB7:=hB1
 have hG7:=hG1
 clear hM1 hB1 hG1
 obtain⟨w7,hw7⟩:∃w7,w1=w7:=⟨_,rfl⟩
 rw [hw7]at hM7 hB7 hG7⊢
 clear hw7
 rw [←ET.out]at hM7
 obtain⟨q2,hq2⟩:∃q2,A.pocketT c q t=q2:=⟨_,rfl⟩
 rw [hq2]at hM7 HO2 HO3
 have HQ2:=hid hq2
 clear hq2
 have c65:w7.cell? ⟨b,65,none⟩=some (.int .u64 (U (A.bs (q2 65)))):=by rw [A.c65 HO2.out];exact hM7.atq 65 dc .u64 rfl
 have h176:w7.cell? ⟨b,176,none⟩=some (.int .i8 (F:Int)):=hM7.atm 0 _ rfl
 have hbl:=hM7.lt
 have hbB:=World.block_lt_of_cell? w7 _ hB7
 have e1:=A.one_at F hF64
 have hwu:IntKind.u64.wrap (F:Int)=(F:Int):=by rw [IntKind.wrap_u64];omega
 refine zl (n:=16) (by kernel_rfl) (by kernel_rfl) ?_
 simp only [List.take_succ_cons,List.take_zero,List.drop_succ_cons,List.drop_zero]
 repeat(first
  |quiet_step (fail))
 refine wpQuiet_nil ?_
 intro w8 hb8
 have hM8:=hM7.below hb8
 have hB8:=(hb8.cell (p:=⟨Bx,0,none⟩) hbB).trans hB7
 have hG8:=A.below_step hG7 hb8
 clear c65 hbl hbB e1 hM7 hB7 hG7 hb8
 go_upto_region 15 with((with_reducible refine zg rfl _ _ _ rfl ?_);refine⟨b,65,q2,c,_,_,(U (bAndn (A.bs (q2 65)) (B.one (F:Int)))),.u64,rfl,rfl,by decide,rfl,A.size_u64A,hM8,?_⟩;intro w9 hP9 hM9)
 have hB9:w9.cell? ⟨Bx,0,none⟩=some (.pointer (some ⟨b,0,none⟩)):=(hP9.cell (p:=⟨Bx,0,none⟩) hBb).trans hB8
 have hG9:=A.put_grown hG8 hP9
 clear hM8 hB8 hG8 hP9 h176
 obtain⟨q3,hq3⟩:∃q3,upd q2 65 (U (bAndn (A.bs (q2 65)) (B.one (F:Int))))=q3:=⟨_,rfl⟩
 rw [hq3]at hM9 HO3
 cases hp:(p !=0)
 ·cases hmf:A.mark c (F:Int)
  ·have E:=hid (show A.pocket c q ((F:Int),(G:Int),p,0,false) t=A.unmark q2 (F:Int) by
    unfold A.pocket
    rw [if_neg (fun h=>h.elim (fun h=>h (by simpa using d1)) (fun h=>h rfl)),if_neg sp,if_neg (fun h=>h.elim (fun h=>h (by simpa using hp)) (fun h=>by rw [hmf]at h;cases h)),HQ2.out])
   have HMF:=hid hmf
   clear hmf
   have h178:w9.cell? ⟨b,178,none⟩=some (.int .u8 p):=hM9.atm 2 _ rfl
   have h176:w9.cell? ⟨b,176,none⟩=some (.int .i8 (F:Int)):=hM9.atm 0 _ rfl
   have hbl:=hM9.lt
   go_wp2_with (go_at_call 127;refine(zR c q3 _ _ b Bx F w9 hM9 hB9 HC hF64).mono ?_;rw [HMF.out];rintro e w4 ⟨rfl,rfl⟩)
   first|refine bodyPost_end (results_none rfl _ _ _) rfl ?_|refine bodyPost_ret (results_none rfl _ _ _) rfl ?_
   refine⟨rfl,⟨?_,hG9⟩⟩
   rw [E.out]
   unfold A.unmark
   rw [hq3]
   exact hM9
  ·have E:=hid (show A.pocket c q ((F:Int),(G:Int),p,0,false) t=A.domark (A.unmark q2 (F:Int)) (G:Int) by
    unfold A.pocket
    rw [if_neg (fun h=>h.elim (fun h=>h (by simpa using d1)) (fun h=>h rfl)),if_neg sp,if_pos (.inr hmf),HQ2.out])
   have HMF:=hid hmf
   clear hmf
   have h178:w9.cell? ⟨b,178,none⟩=some (.int .u8 p):=hM9.atm 2 _ rfl
   have h176:w9.cell? ⟨b,176,none⟩=some (.int .i8 (F:Int)):=hM9.atm 0 _ rfl
   have hbl:=hM9.lt
   go_upto_region 16 with(go_at_call 127;refine(zR c q3 _ _ b Bx F w9 hM9 hB9 HC hF64).mono ?_;rw [HMF.out];rintro e w4 ⟨rfl,rfl⟩)
   clear h178 h176 hbl
   have c65:w9.cell? ⟨b,65,none⟩=some (.int .u64 (U (A.bs (q3 65)))):=by rw [A.c65 HO3.out];exact hM9.atq 65 dc .u64 rfl
   have h177:w9.cell? ⟨b,177,none⟩=some (.int .i8 (G:Int)):=hM9.atm 1 _ rfl
   have hbl:=hM9.lt
   have hbB:=World.block_lt_of_cell? w9 _ hB9
   have e1:=A.one_at G hG64
   have hwu:IntKind.u64.wrap (G:Int)=(G:Int):=by rw [IntKind.wrap_u64];omega
   refine zl (n:=16) (by kernel_rfl) (by kernel_rfl) ?_
   simp only [List.take_succ_cons,List.take_zero,List.drop_succ_cons,List.drop_zero]
   repeat(first
    |quiet_step (fail))
   refine wpQuiet_nil ?_
   intro w10 hb10
   have hM10:=hM9.below hb10
   have hB10:=(hb10.cell (p:=⟨Bx,0,none⟩) hbB).trans hB9
   have hG10:=A.below_step hG9 hb10
   clear c65 hbl hbB e1 hM9 hB9 hG9 hb10
   go_wp2_with ((with_reducible refine zg rfl _ _ _ rfl ?_);refine⟨b,65,q3,c,_,_,(U (bOr (A.bs (q3 65)) (B.one (G:Int)))),.u64,rfl,rfl,by decide,rfl,A.size_u64A,hM10,?_⟩;intro w11 hP11 hM11)
   first|refine bodyPost_end (results_none rfl _ _ _) rfl ?_|refine bodyPost_ret (results_none rfl _ _ _) rfl ?_
   refine⟨rfl,⟨?_,A.put_grown hG10 hP11⟩⟩
   rw [E.out]
   unfold A.domark A.unmark
   rw [hq3]
   exact hM11
 ·have E:=hid (show A.pocket c q ((F:Int),(G:Int),p,0,false) t=A.domark (A.unmark q2 (F:Int)) (G:Int) by
   unfold A.pocket
   rw [if_neg (fun h=>h.elim (fun h=>h (by simpa using d1)) (fun h=>h rfl)),if_neg sp,if_pos (.inl (by simpa using hp)),HQ2.out])
  have h178:w9.cell? ⟨b,178,none⟩=some (.int .u8 p):=hM9.atm 2 _ rfl
  have h176:w9.cell? ⟨b,176,none⟩=some (.int .i8 (F:Int)):=hM9.atm 0 _ rfl
  have hbl:=hM9.lt
  go_upto_region 16 with fail
  clear h178 h176 hbl
  have c65:w9.cell? ⟨b,65,none⟩=some (.int .u64 (U (A.bs (q3 65)))):=by rw [A.c65 HO3.out];exact hM9.atq 65 dc .u64 rfl
  have h177:w9.cell? ⟨b,177,none⟩=some (.int .i8 (G:Int)):=hM9.atm 1 _ rfl
  have hbl:=hM9.lt
  have hbB:=World.block_lt_of_cell? w9 _ hB9
  have e1:=A.one_at G hG64
  have hwu:IntKind.u64.wrap (G:Int)=(G:Int):=by rw [IntKind.wrap_u64];omega
  refine zl (n:=16) (by kernel_rfl) (by kernel_rfl) ?_
  simp only [List.take_succ_cons,List.take_zero,List.drop_succ_cons,List.drop_zero]
  repeat(first
   |quiet_step (fail))
  refine wpQuiet_nil ?_
  intro w10 hb10
  have hM10:=hM9.below hb10
  have hB10:=(hb10.cell (p:=⟨Bx,0,none⟩) hbB).trans hB9
  have hG10:=A.below_step hG9 hb10
  clear c65 hbl hbB e1 hM9 hB9 hG9 hb10
  go_wp2_with ((with_reducible refine zg rfl _ _ _ rfl ?_);refine⟨b,65,q3,c,_,_,(U (bOr (A.bs (q3 65)) (B.one (G:Int)))),.u64,rfl,rfl,by decide,rfl,A.size_u64A,hM10,?_⟩;intro w11 hP11 hM11)
  first|refine bodyPost_end (results_none rfl _ _ _) rfl ?_|refine bodyPost_ret (results_none rfl _ _ _) rfl ?_
  refine⟨rfl,⟨?_,A.put_grown hG10 hP11⟩⟩
  rw [E.out]
  unfold A.domark A.unmark
  rw [hq3]
  exact hM11
theorem zdq(q c:Nat→Int)(F G:Nat)(p:Int)(t:Int)(b:Nat)(w:World)(hM:A.MvAt w b q c ((F:Int),(G:Int),p,0,false) t)(hF64:F<64)(hG64:G<64)(hc:PosOk c)(hq:PosOk q)(d1:(q 0 !=2)=false)(tn:Nat)(ht64:tn<64)(ht:t=(tn:Int))(hmk:A.mark c (tn:Int)=false):
  cR 53 #[.pointer (some ⟨b,0,none⟩)] w (.tuple #[]) fun w'=>A.Step b (A.pocket c q ((F:Int),(G:Int),p,0,false) t) c ((F:Int),(G:Int),p,0,false) t w w':=by
 have ET:=hid (show A.pocketT c q t=A.unmark (A.add q (q 78) (P.kind (c (1+tn)))) (tn:Int) by
  subst ht
  unfold A.pocketT
  rw [if_pos om]
  unfold A.takenKind
  rw [Int.toNat_natCast,if_neg (fun h=>by rw [hmk]at h;cases h.1)])
 have hbT:=zw hc tn ht64
 have HKi:Hid (∀W,cB 122 #[.int .u8 (c (1+tn))] W (.int .u8 (P.kind (c (1+tn))))):=hid (fun W=>A.kind_b _ W hbT.1 hbT.2)
 have h78z:=(zp hq (i:=78) dc rfl).1
 have HAd:Hid (∀W,cB 128 #[.agg (posC q),.int .u8 (q 78),.int .u8 (P.kind (c (1+tn)))] W (.agg (posC (A.add q (q 78) (P.kind (c (1+tn))))))):=hid (fun W=>zc4 q (q 78) _ W hq h78z)
 have HO1:=hid (A.ok_add hq (q 78) (P.kind (c (1+tn))) h78z)
 have ht63:(tn:Int)<64:=by omega
 have dt:decide (0≤t)=true:=by rw [ht];simp
 have HO2:=hid (A.ok_pocketT hq c t)
 have HO3:=hid (A.ok_mark HO2 (bAndn (A.bs (A.pocketT c q t 65)) (B.one (F:Int))))
 have hp31:=underlying31
 have HC:=hid hc
 have HQ0:=hid hq
 have hwF:IntKind.i64.wrap (F:Int)=(F:Int):=by rw [IntKind.wrap_i64];omega
 have hwF':wrap64 (F:Int)=(F:Int):=by simp only [wrap64];omega
 have hwG:IntKind.i64.wrap (G:Int)=(G:Int):=by rw [IntKind.wrap_i64];omega
 have hwG':wrap64 (G:Int)=(G:Int):=by simp only [wrap64];omega
 have HMK:=hid hmk
 have hM1:=hM.alloc (.cells #[.pointer (some ⟨b,0,none⟩)] 106)
 have hB1:(w.alloc (.cells #[.pointer (some ⟨b,0,none⟩)] 106)).cell? ⟨w.heap.size,0,none⟩=some (.pointer (some ⟨b,0,none⟩)):=by
  rw [(RowAt.new w #[.pointer (some ⟨b,0,none⟩)] 106).cell];rfl
 have hG1:w.grownBy (w.alloc (.cells #[.pointer (some ⟨b,0,none⟩)] 106)) (some b):=A.below_step (World.grownBy.refl w _) bA
 have hbl:=hM.lt
 obtain⟨Bx,hBe⟩:∃Bx,w.heap.size=Bx:=⟨_,rfl⟩
 have hBb:Bx≠b:=by omega
 clear hc hq hmk hbT h78z
 go_enter func53,ntmps53
 go_upto_region 1 with fail
 obtain⟨w1,hW1⟩:∃w1,w.alloc (.cells #[.pointer (some ⟨b,0,none⟩)] 106)=w1:=⟨_,rfl⟩
 try rw [hBe]at hB1
 try rw [hBe]
 rw [hW1]at hM1 hB1 hG1⊢
 clear hM hW1 hbl
 have h0:w1.cell? ⟨b,0,none⟩=some (.int .u8 (q 0)):=hM1.atq 0 dc .u8 rfl
 have h179:w1.cell? ⟨b,179,none⟩=some (.int .u8 0):=hM1.atm 3 _ rfl
 have h180:w1.cell? ⟨b,180,none⟩=some (.bool false):=hM1.atm 4 _ rfl
 have h181:=hM1.att
 have hbl:=hM1.lt
 have hbB:=World.block_lt_of_cell? w1 _ hB1
 go_upto_region 9 with fail
 clear h0 h179 h180
 have hbt:w1.cell? ⟨b,89+tn,none⟩=some (.int .u8 (c (1+tn))):=by
  have:=hM1.atc (1+tn) om .u8 (A.pk_sq om)
  rwa [show 88+(1+tn)=89+tn by omega]at this
 subst ht
 refine rB ?_
 repeat(go_big_quiet_step (first
  |(go_at_call 122;exact zd (HKi _))))
 refine wpQuiet_nil ?_
 intro w2 hb2
 have hM2:=hM1.below hb2
 have hB2:=(hb2.cell (p:=⟨Bx,0,none⟩) hbB).trans hB1
 have hG2:=A.below_step hG1 hb2
 clear hM1 hB1 hG1 hb2 h181 hbl hbB hbt
 have h181:=hM2.att
 have hbl:=hM2.lt
 have hbB:=World.block_lt_of_cell? w2 _ hB2
 have hbt:w2.cell? ⟨b,89+tn,none⟩=some (.int .u8 (c (1+tn))):=by
  have:=hM2.atc (1+tn) om .u8 (A.pk_sq om)
  rwa [show 88+(1+tn)=89+tn by omega]at this
 go_upto_region 10 with fail
 refine rB ?_
 repeat(go_big_quiet_step (first
  |(go_at_call 127;exact zd (zbe tn hM2 hB2 HC ht64 HMK))))
 refine wpQuiet_nil ?_
 intro w3 hb3
 have hM3:=hM2.below hb3
 have hB3:=(hb3.cell (p:=⟨Bx,0,none⟩) hbB).trans hB2
 have hG3:=A.below_step hG2 hb3
 clear hM2 hB2 hG2 hb3 h181 hbl hbB hbt
 have h78:w3.cell? ⟨b,78,none⟩=some (.int .u8 (q 78)):=hM3.atq 78 dc .u8 rfl
 have hrq:=hM3.rq
 have hbl:=hM3.lt
 have hbB:=World.block_lt_of_cell? w3 _ hB3
 go_upto_region 12 with fail
 refine zl (n:=14) (by kernel_rfl) (by kernel_rfl) ?_
 simp only [List.take_succ_cons,List.take_zero,List.drop_succ_cons,List.drop_zero]
 repeat(first
  |(refine BigFrame.wpQuiet_want rfl (fun Kq hKq=>zm 31 _ rfl hp31 rfl ⟨b,0,posL q,rfl,hrq,A.posL_info _,hKq _ ?_⟩);simp only [Act.put,sA,sB,sC])
  |quiet_step ((go_at_call 128;exact zd (HAd _))))
 refine wpQuiet_nil ?_
 intro w4 hb4
 have hM4:=hM3.below hb4
 have hB4:=(hb4.cell (p:=⟨Bx,0,none⟩) hbB).trans hB3
 have hG4:=A.below_step hG3 hb4
 clear hM3 hB3 hG3 hb4 h78 hrq hbl hbB
 obtain⟨q1,hq1⟩:∃q1,A.add q (q 78) (P.kind (c (1+tn)))=q1:=⟨_,rfl⟩
 rw [hq1]at HO1 ET
 try rw [hq1]
 go_upto_region 13 with((with_reducible refine za5 rfl _ _ rfl ?_);refine⟨b,q,q1,c,_,_,rfl,rfl,hM4,?_⟩;intro w5 hP5 hM5)
 have hB5:w5.cell? ⟨Bx,0,none⟩=some (.pointer (some ⟨b,0,none⟩)):=(hP5.cell (p:=⟨Bx,0,none⟩) hBb).trans hB4
 have hG5:=A.put_grown hG4 hP5
 clear hM4 hB4 hG4 hP5 hq1
 have c65:w5.cell? ⟨b,65,none⟩=some (.int .u64 (U (A.bs (q1 65)))):=by rw [A.c65 HO1.out];exact hM5.atq 65 dc .u64 rfl
 have h181:=hM5.att
 have hbl:=hM5.lt
 have hbB:=World.block_lt_of_cell? w5 _ hB5
 have e1:=A.one_at tn ht64
 have hwu:IntKind.u64.wrap (tn:Int)=(tn:Int):=by rw [IntKind.wrap_u64];omega
 refine zl (n:=15) (by kernel_rfl) (by kernel_rfl) ?_
 simp only [List.take_succ_cons,List.take_zero,List.drop_succ_cons,List.drop_zero]
 repeat(first
  |quiet_step (fail))
 refine wpQuiet_nil ?_
 intro w6 hb6
 have hM6:=hM5.below hb6
 have hB6:=(hb6.cell (p:=⟨Bx,0,none⟩) hbB).trans hB5
 have hG6:=A.below_step hG5 hb6
 clear c65 hbl hbB e1 hM5 hB5 hG5 hb6
 go_upto_region 14 with((with_reducible refine zg rfl _ _ _ rfl ?_);refine⟨b,65,q1,c,_,_,(U (bAndn (A.bs (q1 65)) (B.one (tn:Int)))),.u64,rfl,rfl,by decide,rfl,A.size_u64A,hM6,?_⟩;intro w7 hP7 hM7)
 have hB7:w7.cell? ⟨Bx,0,none⟩=some (.pointer (some ⟨b,0,none⟩)):=(hP7.cell (p:=⟨Bx,0,none⟩) hBb).trans hB6
 have hG7:=A.put_grown hG6 hP7
 clear hM6 hB6 hG6 hP7 h181
 rw [show upd q1 65 (U (bAndn (A.bs (q1 65)) (B.one (tn:Int))))=A.pocketT c q (tn:Int)from ET.out.symm]at hM7
 obtain⟨q2,hq2⟩:∃q2,A.pocketT c q (tn:Int)=q2:=⟨_,rfl⟩
 rw [hq2]at hM7 HO2 HO3
 have HQ2:=hid hq2
 clear hq2
 have c65:w7.cell? ⟨b,65,none⟩=some (.int .u64 (U (A.bs (q2 65)))):=by rw [A.c65 HO2.out];exact hM7.atq 65 dc .u64 rfl
 have h176:w7.cell? ⟨b,176,none⟩=some (.int .i8 (F:Int)):=hM7.atm 0 _ rfl
 have hbl:=hM7.lt
 have hbB:=World.block_lt_of_cell? w7 _ hB7
 have e1:=A.one_at F hF64
 have hwu:IntKind.u64.wrap (F:Int)=(F:Int):=by rw [IntKind.wrap_u64];omega
 refine zl (n:=16) (by kernel_rfl) (by kernel_rfl) ?_
 simp only [List.take_succ_cons,List.take_zero,List.drop_succ_cons,List.drop_zero]
 repeat(first
  |quiet_step (fail))
 refine wpQuiet_nil ?_
 intro w8 hb8
 have hM8:=hM7.below hb8
 have hB8:=(hb8.cell (p:=⟨Bx,0,none⟩) hbB).trans hB7
 have hG8:=A.below_step hG7 hb8
 clear c65 hbl hbB e1 hM7 hB7 hG7 hb8
 go_upto_region 15 with((with_reducible refine zg rfl _ _ _ rfl ?_);refine⟨b,65,q2,c,_,_,(U (bAndn (A.bs (q2 65)) (B.one (F:Int)))),.u64,rfl,rfl,by decide,rfl,A.size_u64A,hM8,?_⟩;intro w9 hP9 hM9)
 have hB9:w9.cell? ⟨Bx,0,none⟩=some (.pointer (some ⟨b,0,none⟩)):=(hP9.cell (p:=⟨Bx,0,none⟩) hBb).trans hB8
 have hG9:=A.put_grown hG8 hP9
 clear hM8 hB8 hG8 hP9 h176
 obtain⟨q3,hq3⟩:∃q3,upd q2 65 (U (bAndn (A.bs (q2 65)) (B.one (F:Int))))=q3:=⟨_,rfl⟩
 rw [hq3]at hM9 HO3
 cases hp:(p !=0)
 ·cases hmf:A.mark c (F:Int)
  ·have E:=hid (show A.pocket c q ((F:Int),(G:Int),p,0,false) (tn:Int)=A.unmark q2 (F:Int) by
    unfold A.pocket
    rw [if_neg (fun h=>h.elim (fun h=>h (by simpa using d1)) (fun h=>h rfl)),if_neg sp,if_neg (fun h=>h.elim (fun h=>h (by simpa using hp)) (fun h=>by rw [hmf]at h;cases h)),HQ2.out])
   have HMF:=hid hmf
   clear hmf
   have h178:w9.cell? ⟨b,178,none⟩=some (.int .u8 p):=hM9.atm 2 _ rfl
   have h176:w9.cell? ⟨b,176,none⟩=some (.int .i8 (F:Int)):=hM9.atm 0 _ rfl
   have hbl:=hM9.lt
   go_wp2_with (go_at_call 127;refine(zR c q3 _ _ b Bx F w9 hM9 hB9 HC hF64).mono ?_;rw [HMF.out];rintro e w4 ⟨rfl,rfl⟩)
   first|refine bodyPost_end (results_none rfl _ _ _) rfl ?_|refine bodyPost_ret (results_none rfl _ _ _) rfl ?_
   refine⟨rfl,⟨?_,hG9⟩⟩
   rw [E.out]
   unfold A.unmark
   rw [hq3]
   exact hM9
  ·have E:=hid (show A.pocket c q ((F:Int),(G:Int),p,0,false) (tn:Int)=A.domark (A.unmark q2 (F:Int)) (G:Int) by
    unfold A.pocket
    rw [if_neg (fun h=>h.elim (fun h=>h (by simpa using d1)) (fun h=>h rfl)),if_neg sp,if_pos (.inr hmf),HQ2.out])
   have HMF:=hid hmf
   clear hmf
   have h178:w9.cell? ⟨b,178,none⟩=some (.int .u8 p):=hM9.atm 2 _ rfl
   have h176:w9.cell? ⟨b,176,none⟩=some (.int .i8 (F:Int)):=hM9.atm 0 _ rfl
   have hbl:=hM9.lt
   go_upto_region 16 with(go_at_call 127;refine(zR c q3 _ _ b Bx F w9 hM9 hB9 HC hF64).mono ?_;rw [HMF.out];rintro e w4 ⟨rfl,rfl⟩)
   clear h178 h176 hbl
   have c65:w9.cell? ⟨b,65,none⟩=some (.int .u64 (U (A.bs (q3 65)))):=by rw [A.c65 HO3.out];exact hM9.atq 65 dc .u64 rfl
   have h177:w9.cell? ⟨b,177,none⟩=some (.int .i8 (G:Int)):=hM9.atm 1 _ rfl
   have hbl:=hM9.lt
   have hbB:=World.block_lt_of_cell? w9 _ hB9
   have e1:=A.one_at G hG64
   have hwu:IntKind.u64.wrap (G:Int)=(G:Int):=by rw [IntKind.wrap_u64];omega
   refine zl (n:=16) (by kernel_rfl) (by kernel_rfl) ?_
   simp only [List.take_succ_cons,List.take_zero,List.drop_succ_cons,List.drop_zero]
   repeat(first
    |quiet_step (fail))
   refine wpQuiet_nil ?_
   intro w10 hb10
   have hM10:=hM9.below hb10
   have hB10:=(hb10.cell (p:=⟨Bx,0,none⟩) hbB).trans hB9
   have hG10:=A.below_step hG9 hb10
   clear c65 hbl hbB e1 hM9 hB9 hG9 hb10
   go_wp2_with ((with_reducible refine zg rfl _ _ _ rfl ?_);refine⟨b,65,q3,c,_,_,(U (bOr (A.bs (q3 65)) (B.one (G:Int)))),.u64,rfl,rfl,by decide,rfl,A.size_u64A,hM10,?_⟩;intro w11 hP11 hM11)
   first|refine bodyPost_end (results_none rfl _ _ _) rfl ?_|refine bodyPost_ret (results_none rfl _ _ _) rfl ?_
   refine⟨rfl,⟨?_,A.put_grown hG10 hP11⟩⟩
   rw [E.out]
   unfold A.domark A.unmark
   rw [hq3]
   exact hM11
 ·have E:=hid (show A.pocket c q ((F:Int),(G:Int),p,0,false) (tn:Int)=A.domark (A.unmark q2 (F:Int)) (G:Int) by
   unfold A.pocket
   rw [if_neg (fun h=>h.elim (fun h=>h (by simpa using d1)) (fun h=>h rfl)),if_neg sp,if_pos (.inl (by simpa using hp)),HQ2.out])
  have h178:w9.cell? ⟨b,178,none⟩=some (.int .u8 p):=hM9.atm 2 _ rfl
  have h176:w9.cell? ⟨b,176,none⟩=some (.int .i8 (F:Int)):=hM9.atm 0 _ rfl
  have hbl:=hM9.lt
  go_upto_region 16 with fail
  clear h178 h176 hbl
  have c65:w9.cell? ⟨b,65,none⟩=some (.int .u64 (U (A.bs (q3 65)))):=by rw [A.c65 HO3.out];exact hM9.atq 65 dc .u64 rfl
  have h177:w9.cell? ⟨b,177,none⟩=some (.int .i8 (G:Int)):=hM9.atm 1 _ rfl
  have hbl:=hM9.lt
  have hbB:=World.block_lt_of_cell? w9 _ hB9
  have e1:=A.one_at G hG64
  have hwu:IntKind.u64.wrap (G:Int)=(G:Int):=by rw [IntKind.wrap_u64];omega
  refine zl (n:=16) (by kernel_rfl) (by kernel_rfl) ?_
  simp only [List.take_succ_cons,List.take_zero,List.drop_succ_cons,List.drop_zero]
  repeat(first
   |quiet_step (fail))
  refine wpQuiet_nil ?_
  intro w10 hb10
  have hM10:=hM9.below hb10
  have hB10:=(hb10.cell (p:=⟨Bx,0,none⟩) hbB).trans hB9
  have hG10:=A.below_step hG9 hb10
  clear c65 hbl hbB e1 hM9 hB9 hG9 hb10
  go_wp2_with ((with_reducible refine zg rfl _ _ _ rfl ?_);refine⟨b,65,q3,c,_,_,(U (bOr (A.bs (q3 65)) (B.one (G:Int)))),.u64,rfl,rfl,by decide,rfl,A.size_u64A,hM10,?_⟩;intro w11 hP11 hM11)
  first|refine bodyPost_end (results_none rfl _ _ _) rfl ?_|refine bodyPost_ret (results_none rfl _ _ _) rfl ?_
  refine⟨rfl,⟨?_,A.put_grown hG10 hP11⟩⟩
  rw [E.out]
  unfold A.domark A.unmark
  rw [hq3]
  exact hM11
theorem zdE(q c:Nat→Int)(F G:Nat)(p:Int)(t:Int)(b:Nat)(w:World)(hM:A.MvAt w b q c ((F:Int),(G:Int),p,0,false) t)(hF64:F<64)(hG64:G<64)(hc:PosOk c)(hq:PosOk q)(d1:(q 0 !=2)=false)(tn:Nat)(ht64:tn<64)(ht:t=(tn:Int))(hmk:A.mark c (tn:Int)=true)(hne:(c (1+tn) !=0)=false):
  cR 53 #[.pointer (some ⟨b,0,none⟩)] w (.tuple #[]) fun w'=>A.Step b (A.pocket c q ((F:Int),(G:Int),p,0,false) t) c ((F:Int),(G:Int),p,0,false) t w w':=by
 have ET:=hid (show A.pocketT c q t=A.unmark (A.add q (q 78) (P.kind (c (1+tn)))) (tn:Int) by
  subst ht
  unfold A.pocketT
  rw [if_pos om]
  unfold A.takenKind
  rw [Int.toNat_natCast,if_neg (fun h=>h.2 (by simpa using hne))])
 have hbT:=zw hc tn ht64
 have HKi:Hid (∀W,cB 122 #[.int .u8 (c (1+tn))] W (.int .u8 (P.kind (c (1+tn))))):=hid (fun W=>A.kind_b _ W hbT.1 hbT.2)
 have h78z:=(zp hq (i:=78) dc rfl).1
 have HAd:Hid (∀W,cB 128 #[.agg (posC q),.int .u8 (q 78),.int .u8 (P.kind (c (1+tn)))] W (.agg (posC (A.add q (q 78) (P.kind (c (1+tn))))))):=hid (fun W=>zc4 q (q 78) _ W hq h78z)
 have HO1:=hid (A.ok_add hq (q 78) (P.kind (c (1+tn))) h78z)
 have ht63:(tn:Int)<64:=by omega
 have dt:decide (0≤t)=true:=by rw [ht];simp
 have HO2:=hid (A.ok_pocketT hq c t)
 have HO3:=hid (A.ok_mark HO2 (bAndn (A.bs (A.pocketT c q t 65)) (B.one (F:Int))))
 have hp31:=underlying31
 have HC:=hid hc
 have HQ0:=hid hq
 have hwF:IntKind.i64.wrap (F:Int)=(F:Int):=by rw [IntKind.wrap_i64];omega
 have hwF':wrap64 (F:Int)=(F:Int):=by simp only [wrap64];omega
 have hwG:IntKind.i64.wrap (G:Int)=(G:Int):=by rw [IntKind.wrap_i64];omega
 have hwG':wrap64 (G:Int)=(G:Int):=by simp only [wrap64];omega
 have HMK:=hid hmk
 have hM1:=hM.alloc (.cells #[.pointer (some ⟨b,0,none⟩)] 106)
 have hB1:(w.alloc (.cells #[.pointer (some ⟨b,0,none⟩)] 106)).cell? ⟨w.heap.size,0,none⟩=some (.pointer (some ⟨b,0,none⟩)):=by
  rw [(RowAt.new w #[.pointer (some ⟨b,0,none⟩)] 106).cell];rfl
 have hG1:w.grownBy (w.alloc (.cells #[.pointer (some ⟨b,0,none⟩)] 106)) (some b):=A.below_step (World.grownBy.refl w _) bA
 have hbl:=hM.lt
 obtain⟨Bx,hBe⟩:∃Bx,w.heap.size=Bx:=⟨_,rfl⟩
 have hBb:Bx≠b:=by omega
 clear hc hq hmk hbT h78z
 go_enter func53,ntmps53
 go_upto_region 1 with fail
 obtain⟨w1,hW1⟩:∃w1,w.alloc (.cells #[.pointer (some ⟨b,0,none⟩)] 106)=w1:=⟨_,rfl⟩
 try rw [hBe]at hB1
 try rw [hBe]
 rw [hW1]at hM1 hB1 hG1⊢
 clear hM hW1 hbl
 have h0:w1.cell? ⟨b,0,none⟩=some (.int .u8 (q 0)):=hM1.atq 0 dc .u8 rfl
 have h179:w1.cell? ⟨b,179,none⟩=some (.int .u8 0):=hM1.atm 3 _ rfl
 have h180:w1.cell? ⟨b,180,none⟩=some (.bool false):=hM1.atm 4 _ rfl
 have h181:=hM1.att
 have hbl:=hM1.lt
 have hbB:=World.block_lt_of_cell? w1 _ hB1
 go_upto_region 9 with fail
 clear h0 h179 h180
 have hbt:w1.cell? ⟨b,89+tn,none⟩=some (.int .u8 (c (1+tn))):=by
  have:=hM1.atc (1+tn) om .u8 (A.pk_sq om)
  rwa [show 88+(1+tn)=89+tn by omega]at this
 subst ht
 refine rB ?_
 repeat(go_big_quiet_step (first
  |(go_at_call 122;exact zd (HKi _))))
 refine wpQuiet_nil ?_
 intro w2 hb2
 have hM2:=hM1.below hb2
 have hB2:=(hb2.cell (p:=⟨Bx,0,none⟩) hbB).trans hB1
 have hG2:=A.below_step hG1 hb2
 clear hM1 hB1 hG1 hb2 h181 hbl hbB hbt
 have h181:=hM2.att
 have hbl:=hM2.lt
 have hbB:=World.block_lt_of_cell? w2 _ hB2
 have hbt:w2.cell? ⟨b,89+tn,none⟩=some (.int .u8 (c (1+tn))):=by
  have:=hM2.atc (1+tn) om .u8 (A.pk_sq om)
  rwa [show 88+(1+tn)=89+tn by omega]at this
 go_upto_region 10 with fail
 refine rB ?_
 repeat(go_big_quiet_step (first
  |(go_at_call 127;exact zd (zbe tn hM2 hB2 HC ht64 HMK))))
 refine wpQuiet_nil ?_
 intro w3 hb3
 have hM3:=hM2.below hb3
 have hB3:=(hb3.cell (p:=⟨Bx,0,none⟩) hbB).trans hB2
 have hG3:=A.below_step hG2 hb3
 clear hM2 hB2 hG2 hb3 h181 hbl hbB hbt
 have h78:w3.cell? ⟨b,78,none⟩=some (.int .u8 (q 78)):=hM3.atq 78 dc .u8 rfl
 have hrq:=hM3.rq
 have hbl:=hM3.lt
 have hbB:=World.block_lt_of_cell? w3 _ hB3
 go_upto_region 12 with fail
 refine zl (n:=14) (by kernel_rfl) (by kernel_rfl) ?_
 simp only [List.take_succ_cons,List.take_zero,List.drop_succ_cons,List.drop_zero]
 repeat(first
  |(refine BigFrame.wpQuiet_want rfl (fun Kq hKq=>zm 31 _ rfl hp31 rfl ⟨b,0,posL q,rfl,hrq,A.posL_info _,hKq _ ?_⟩);simp only [Act.put,sA,sB,sC])
  |quiet_step ((go_at_call 128;exact zd (HAd _))))
 refine wpQuiet_nil ?_
 intro w4 hb4
 have hM4:=hM3.below hb4
 have hB4:=(hb4.cell (p:=⟨Bx,0,none⟩) hbB).trans hB3
 have hG4:=A.below_step hG3 hb4
 clear hM3 hB3 hG3 hb4 h78 hrq hbl hbB
 obtain⟨q1,hq1⟩:∃q1,A.add q (q 78) (P.kind (c (1+tn)))=q1:=⟨_,rfl⟩
 rw [hq1]at HO1 ET
 try rw [hq1]
 go_upto_region 13 with((with_reducible refine za5 rfl _ _ rfl ?_);refine⟨b,q,q1,c,_,_,rfl,rfl,hM4,?_⟩;intro w5 hP5 hM5)
 have hB5:w5.cell? ⟨Bx,0,none⟩=some (.pointer (some ⟨b,0,none⟩)):=(hP5.cell (p:=⟨Bx,0,none⟩) hBb).trans hB4
 have hG5:=A.put_grown hG4 hP5
 clear hM4 hB4 hG4 hP5 hq1
 have c65:w5.cell? ⟨b,65,none⟩=some (.int .u64 (U (A.bs (q1 65)))):=by rw [A.c65 HO1.out];exact hM5.atq 65 dc .u64 rfl
 have h181:=hM5.att
 have hbl:=hM5.lt
 have hbB:=World.block_lt_of_cell? w5 _ hB5
 have e1:=A.one_at tn ht64
 have hwu:IntKind.u64.wrap (tn:Int)=(tn:Int):=by rw [IntKind.wrap_u64];omega
 refine zl (n:=15) (by kernel_rfl) (by kernel_rfl) ?_
 simp only [List.take_succ_cons,List.take_zero,List.drop_succ_cons,List.drop_zero]
 repeat(first
  |quiet_step (fail))
 refine wpQuiet_nil ?_
 intro w6 hb6
 have hM6:=hM5.below hb6
 have hB6:=(hb6.cell (p:=⟨Bx,0,none⟩) hbB).trans hB5
 have hG6:=A.below_step hG5 hb6
 clear c65 hbl hbB e1 hM5 hB5 hG5 hb6
 go_upto_region 14 with((with_reducible refine zg rfl _ _ _ rfl ?_);refine⟨b,65,q1,c,_,_,(U (bAndn (A.bs (q1 65)) (B.one (tn:Int)))),.u64,rfl,rfl,by decide,rfl,A.size_u64A,hM6,?_⟩;intro w7 hP7 hM7)
 have hB7:w7.cell? ⟨Bx,0,none⟩=some (.pointer (some ⟨b,0,none⟩)):=(hP7.cell (p:=⟨Bx,0,none⟩) hBb).trans hB6
 have hG7:=A.put_grown hG6 hP7
 clear hM6 hB6 hG6 hP7 h181
 rw [show upd q1 65 (U (bAndn (A.bs (q1 65)) (B.one (tn:Int))))=A.pocketT c q (tn:Int)from ET.out.symm]at hM7
 obtain⟨q2,hq2⟩:∃q2,A.pocketT c q (tn:Int)=q2:=⟨_,rfl⟩
 rw [hq2]at hM7 HO2 HO3
 have HQ2:=hid hq2
 clear hq2
 have c65:w7.cell? ⟨b,65,none⟩=some (.int .u64 (U (A.bs (q2 65)))):=by rw [A.c65 HO2.out];exact hM7.atq 65 dc .u64 rfl
 have h176:w7.cell? ⟨b,176,none⟩=some (.int .i8 (F:Int)):=hM7.atm 0 _ rfl
 have hbl:=hM7.lt
 have hbB:=World.block_lt_of_cell? w7 _ hB7
 have e1:=A.one_at F hF64
 have hwu:IntKind.u64.wrap (F:Int)=(F:Int):=by rw [IntKind.wrap_u64];omega
 refine zl (n:=16) (by kernel_rfl) (by kernel_rfl) ?_
 simp only [List.take_succ_cons,List.take_zero,List.drop_succ_cons,List.drop_zero]
 repeat(first
  |quiet_step (fail))
 refine wpQuiet_nil ?_
 intro w8 hb8
 have hM8:=hM7.below hb8
 have hB8:=(hb8.cell (p:=⟨Bx,0,none⟩) hbB).trans hB7
 have hG8:=A.below_step hG7 hb8
 clear c65 hbl hbB e1 hM7 hB7 hG7 hb8
 go_upto_region 15 with((with_reducible refine zg rfl _ _ _ rfl ?_);refine⟨b,65,q2,c,_,_,(U (bAndn (A.bs (q2 65)) (B.one (F:Int)))),.u64,rfl,rfl,by decide,rfl,A.size_u64A,hM8,?_⟩;intro w9 hP9 hM9)
 have hB9:w9.cell? ⟨Bx,0,none⟩=some (.pointer (some ⟨b,0,none⟩)):=(hP9.cell (p:=⟨Bx,0,none⟩) hBb).trans hB8
 have hG9:=A.put_grown hG8 hP9
 clear hM8 hB8 hG8 hP9 h176
 obtain⟨q3,hq3⟩:∃q3,upd q2 65 (U (bAndn (A.bs (q2 65)) (B.one (F:Int))))=q3:=⟨_,rfl⟩
 rw [hq3]at hM9 HO3
 cases hp:(p !=0)
 ·cases hmf:A.mark c (F:Int)
  ·have E:=hid (show A.pocket c q ((F:Int),(G:Int),p,0,false) (tn:Int)=A.unmark q2 (F:Int) by
    unfold A.pocket
    rw [if_neg (fun h=>h.elim (fun h=>h (by simpa using d1)) (fun h=>h rfl)),if_neg sp,if_neg (fun h=>h.elim (fun h=>h (by simpa using hp)) (fun h=>by rw [hmf]at h;cases h)),HQ2.out])
   have HMF:=hid hmf
   clear hmf
   have h178:w9.cell? ⟨b,178,none⟩=some (.int .u8 p):=hM9.atm 2 _ rfl
   have h176:w9.cell? ⟨b,176,none⟩=some (.int .i8 (F:Int)):=hM9.atm 0 _ rfl
   have hbl:=hM9.lt
   go_wp2_with (go_at_call 127;refine(zR c q3 _ _ b Bx F w9 hM9 hB9 HC hF64).mono ?_;rw [HMF.out];rintro e w4 ⟨rfl,rfl⟩)
   first|refine bodyPost_end (results_none rfl _ _ _) rfl ?_|refine bodyPost_ret (results_none rfl _ _ _) rfl ?_
   refine⟨rfl,⟨?_,hG9⟩⟩
   rw [E.out]
   unfold A.unmark
   rw [hq3]
   exact hM9
  ·have E:=hid (show A.pocket c q ((F:Int),(G:Int),p,0,false) (tn:Int)=A.domark (A.unmark q2 (F:Int)) (G:Int) by
    unfold A.pocket
    rw [if_neg (fun h=>h.elim (fun h=>h (by simpa using d1)) (fun h=>h rfl)),if_neg sp,if_pos (.inr hmf),HQ2.out])
   have HMF:=hid hmf
   clear hmf
   have h178:w9.cell? ⟨b,178,none⟩=some (.int .u8 p):=hM9.atm 2 _ rfl
   have h176:w9.cell? ⟨b,176,none⟩=some (.int .i8 (F:Int)):=hM9.atm 0 _ rfl
   have hbl:=hM9.lt
   go_upto_region 16 with(go_at_call 127;refine(zR c q3 _ _ b Bx F w9 hM9 hB9 HC hF64).mono ?_;rw [HMF.out];rintro e w4 ⟨rfl,rfl⟩)
   clear h178 h176 hbl
   have c65:w9.cell? ⟨b,65,none⟩=some (.int .u64 (U (A.bs (q3 65)))):=by rw [A.c65 HO3.out];exact hM9.atq 65 dc .u64 rfl
   have h177:w9.cell? ⟨b,177,none⟩=some (.int .i8 (G:Int)):=hM9.atm 1 _ rfl
   have hbl:=hM9.lt
   have hbB:=World.block_lt_of_cell? w9 _ hB9
   have e1:=A.one_at G hG64
   have hwu:IntKind.u64.wrap (G:Int)=(G:Int):=by rw [IntKind.wrap_u64];omega
   refine zl (n:=16) (by kernel_rfl) (by kernel_rfl) ?_
   simp only [List.take_succ_cons,List.take_zero,List.drop_succ_cons,List.drop_zero]
   repeat(first
    |quiet_step (fail))
   refine wpQuiet_nil ?_
   intro w10 hb10
   have hM10:=hM9.below hb10
   have hB10:=(hb10.cell (p:=⟨Bx,0,none⟩) hbB).trans hB9
   have hG10:=A.below_step hG9 hb10
   clear c65 hbl hbB e1 hM9 hB9 hG9 hb10
   go_wp2_with ((with_reducible refine zg rfl _ _ _ rfl ?_);refine⟨b,65,q3,c,_,_,(U (bOr (A.bs (q3 65)) (B.one (G:Int)))),.u64,rfl,rfl,by decide,rfl,A.size_u64A,hM10,?_⟩;intro w11 hP11 hM11)
   first|refine bodyPost_end (results_none rfl _ _ _) rfl ?_|refine bodyPost_ret (results_none rfl _ _ _) rfl ?_
   refine⟨rfl,⟨?_,A.put_grown hG10 hP11⟩⟩
   rw [E.out]
   unfold A.domark A.unmark
   rw [hq3]
   exact hM11
 ·have E:=hid (show A.pocket c q ((F:Int),(G:Int),p,0,false) (tn:Int)=A.domark (A.unmark q2 (F:Int)) (G:Int) by
   unfold A.pocket
   rw [if_neg (fun h=>h.elim (fun h=>h (by simpa using d1)) (fun h=>h rfl)),if_neg sp,if_pos (.inl (by simpa using hp)),HQ2.out])
  have h178:w9.cell? ⟨b,178,none⟩=some (.int .u8 p):=hM9.atm 2 _ rfl
  have h176:w9.cell? ⟨b,176,none⟩=some (.int .i8 (F:Int)):=hM9.atm 0 _ rfl
  have hbl:=hM9.lt
  go_upto_region 16 with fail
  clear h178 h176 hbl
  have c65:w9.cell? ⟨b,65,none⟩=some (.int .u64 (U (A.bs (q3 65)))):=by rw [A.c65 HO3.out];exact hM9.atq 65 dc .u64 rfl
  have h177:w9.cell? ⟨b,177,none⟩=some (.int .i8 (G:Int)):=hM9.atm 1 _ rfl
  have hbl:=hM9.lt
  have hbB:=World.block_lt_of_cell? w9 _ hB9
  have e1:=A.one_at G hG64
  have hwu:IntKind.u64.wrap (G:Int)=(G:Int):=by rw [IntKind.wrap_u64];omega
  refine zl (n:=16) (by kernel_rfl) (by kernel_rfl) ?_
  simp only [List.take_succ_cons,List.take_zero,List.drop_succ_cons,List.drop_zero]
  repeat(first
   |quiet_step (fail))
  refine wpQuiet_nil ?_
  intro w10 hb10
  have hM10:=hM9.below hb10
  have hB10:=(hb10.cell (p:=⟨Bx,0,none⟩) hbB).trans hB9
  have hG10:=A.below_step hG9 hb10
  clear c65 hbl hbB e1 hM9 hB9 hG9 hb10
  go_wp2_with ((with_reducible refine zg rfl _ _ _ rfl ?_);refine⟨b,65,q3,c,_,_,(U (bOr (A.bs (q3 65)) (B.one (G:Int)))),.u64,rfl,rfl,by decide,rfl,A.size_u64A,hM10,?_⟩;intro w11 hP11 hM11)
  first|refine bodyPost_end (results_none rfl _ _ _) rfl ?_|refine bodyPost_ret (results_none rfl _ _ _) rfl ?_
  refine⟨rfl,⟨?_,A.put_grown hG10 hP11⟩⟩
  rw [E.out]
  unfold A.domark A.unmark
  rw [hq3]
  exact hM11
theorem zdH(q c:Nat→Int)(F G:Nat)(p:Int)(t:Int)(b:Nat)(w:World)(hM:A.MvAt w b q c ((F:Int),(G:Int),p,0,false) t)(hF64:F<64)(hG64:G<64)(hc:PosOk c)(hq:PosOk q)(d1:(q 0 !=2)=false)(tn:Nat)(ht64:tn<64)(ht:t=(tn:Int))(hmk:A.mark c (tn:Int)=true)(hne:(c (1+tn) !=0)=true):
  cR 53 #[.pointer (some ⟨b,0,none⟩)] w (.tuple #[]) fun w'=>A.Step b (A.pocket c q ((F:Int),(G:Int),p,0,false) t) c ((F:Int),(G:Int),p,0,false) t w w':=by
 have ET:=hid (show A.pocketT c q t=A.unmark (A.add q (q 78) (1)) (tn:Int) by
  subst ht
  unfold A.pocketT
  rw [if_pos om]
  unfold A.takenKind
  rw [Int.toNat_natCast,if_pos ⟨hmk,by simpa using hne⟩])
 have hbT:=zw hc tn ht64
 have HKi:Hid (∀W,cB 122 #[.int .u8 (c (1+tn))] W (.int .u8 (P.kind (c (1+tn))))):=hid (fun W=>A.kind_b _ W hbT.1 hbT.2)
 have h78z:=(zp hq (i:=78) dc rfl).1
 have HAd:Hid (∀W,cB 128 #[.agg (posC q),.int .u8 (q 78),.int .u8 (1)] W (.agg (posC (A.add q (q 78) (1))))):=hid (fun W=>zc4 q (q 78) _ W hq h78z)
 have HO1:=hid (A.ok_add hq (q 78) (1) h78z)
 have ht63:(tn:Int)<64:=by omega
 have dt:decide (0≤t)=true:=by rw [ht];simp
 have HO2:=hid (A.ok_pocketT hq c t)
 have HO3:=hid (A.ok_mark HO2 (bAndn (A.bs (A.pocketT c q t 65)) (B.one (F:Int))))
 have hp31:=underlying31
 have HC:=hid hc
 have HQ0:=hid hq
 have hwF:IntKind.i64.wrap (F:Int)=(F:Int):=by rw [IntKind.wrap_i64];omega
 have hwF':wrap64 (F:Int)=(F:Int):=by simp only [wrap64];omega
 have hwG:IntKind.i64.wrap (G:Int)=(G:Int):=by rw [IntKind.wrap_i64];omega
 have hwG':wrap64 (G:Int)=(G:Int):=by simp only [wrap64];omega
 have HMK:=hid hmk
 have hM1:=hM.alloc (.cells #[.pointer (some ⟨b,0,none⟩)] 106)
 have hB1:(w.alloc (.cells #[.pointer (some ⟨b,0,none⟩)] 106)).cell? ⟨w.heap.size,0,none⟩=some (.pointer (some ⟨b,0,none⟩)):=by
  rw [(RowAt.new w #[.pointer (some ⟨b,0,none⟩)] 106).cell];rfl
 have hG1:w.grownBy (w.alloc (.cells #[.pointer (some ⟨b,0,none⟩)] 106)) (some b):=A.below_step (World.grownBy.refl w _) bA
 have hbl:=hM.lt
 obtain⟨Bx,hBe⟩:∃Bx,w.heap.size=Bx:=⟨_,rfl⟩
 have hBb:Bx≠b:=by omega
 clear hc hq hmk hbT h78z
 go_enter func53,ntmps53
 go_upto_region 1 with fail
 obtain⟨w1,hW1⟩:∃w1,w.alloc (.cells #[.pointer (some ⟨b,0,none⟩)] 106)=w1:=⟨_,rfl⟩
 try rw [hBe]at hB1
 try rw [hBe]
 rw [hW1]at hM1 hB1 hG1⊢
 clear hM hW1 hbl
 have h0:w1.cell? ⟨b,0,none⟩=some (.int .u8 (q 0)):=hM1.atq 0 dc .u8 rfl
 have h179:w1.cell? ⟨b,179,none⟩=some (.int .u8 0):=hM1.atm 3 _ rfl
 have h180:w1.cell? ⟨b,180,none⟩=some (.bool false):=hM1.atm 4 _ rfl
 have h181:=hM1.att
 have hbl:=hM1.lt
 have hbB:=World.block_lt_of_cell? w1 _ hB1
 go_upto_region 9 with fail
 clear h0 h179 h180
 have hbt:w1.cell? ⟨b,89+tn,none⟩=some (.int .u8 (c (1+tn))):=by
  have:=hM1.atc (1+tn) om .u8 (A.pk_sq om)
  rwa [show 88+(1+tn)=89+tn by omega]at this
 subst ht
 refine rB ?_
 repeat(go_big_quiet_step (first
  |(go_at_call 122;exact zd (HKi _))))
 refine wpQuiet_nil ?_
 intro w2 hb2
 have hM2:=hM1.below hb2
 have hB2:=(hb2.cell (p:=⟨Bx,0,none⟩) hbB).trans hB1
 have hG2:=A.below_step hG1 hb2
 clear hM1 hB1 hG1 hb2 h181 hbl hbB hbt
 have h181:=hM2.att
 have hbl:=hM2.lt
 have hbB:=World.block_lt_of_cell? w2 _ hB2
 have hbt:w2.cell? ⟨b,89+tn,none⟩=some (.int .u8 (c (1+tn))):=by
  have:=hM2.atc (1+tn) om .u8 (A.pk_sq om)
  rwa [show 88+(1+tn)=89+tn by omega]at this
 go_upto_region 10 with fail
 refine rB ?_
 repeat(go_big_quiet_step (first
  |(go_at_call 127;exact zd (zbe tn hM2 hB2 HC ht64 HMK))))
 refine wpQuiet_nil ?_
 intro w3 hb3
 have hM3:=hM2.below hb3
 have hB3:=(hb3.cell (p:=⟨Bx,0,none⟩) hbB).trans hB2
 have hG3:=A.below_step hG2 hb3
 clear hM2 hB2 hG2 hb3 h181 hbl hbB hbt
 have h78:w3.cell? ⟨b,78,none⟩=some (.int .u8 (q 78)):=hM3.atq 78 dc .u8 rfl
 have hrq:=hM3.rq
 have hbl:=hM3.lt
 have hbB:=World.block_lt_of_cell? w3 _ hB3
 go_upto_region 12 with fail
 refine zl (n:=14) (by kernel_rfl) (by kernel_rfl) ?_
 simp only [List.take_succ_cons,List.take_zero,List.drop_succ_cons,List.drop_zero]
 repeat(first
  |(refine BigFrame.wpQuiet_want rfl (fun Kq hKq=>zm 31 _ rfl hp31 rfl ⟨b,0,posL q,rfl,hrq,A.posL_info _,hKq _ ?_⟩);simp only [Act.put,sA,sB,sC])
  |quiet_step ((go_at_call 128;exact zd (HAd _))))
 refine wpQuiet_nil ?_
 intro w4 hb4
 have hM4:=hM3.below hb4
 have hB4:=(hb4.cell (p:=⟨Bx,0,none⟩) hbB).trans hB3
 have hG4:=A.below_step hG3 hb4
 clear hM3 hB3 hG3 hb4 h78 hrq hbl hbB
 obtain⟨q1,hq1⟩:∃q1,A.add q (q 78) (1)=q1:=⟨_,rfl⟩
 rw [hq1]at HO1 ET
 try rw [hq1]
 go_upto_region 13 with((with_reducible refine za5 rfl _ _ rfl ?_);refine⟨b,q,q1,c,_,_,rfl,rfl,hM4,?_⟩;intro w5 hP5 hM5)
 have hB5:w5.cell? ⟨Bx,0,none⟩=some (.pointer (some ⟨b,0,none⟩)):=(hP5.cell (p:=⟨Bx,0,none⟩) hBb).trans hB4
 have hG5:=A.put_grown hG4 hP5
 clear hM4 hB4 hG4 hP5 hq1
 have c65:w5.cell? ⟨b,65,none⟩=some (.int .u64 (U (A.bs (q1 65)))):=by rw [A.c65 HO1.out];exact hM5.atq 65 dc .u64 rfl
 have h181:=hM5.att
 have hbl:=hM5.lt
 have hbB:=World.block_lt_of_cell? w5 _ hB5
 have e1:=A.one_at tn ht64
 have hwu:IntKind.u64.wrap (tn:Int)=(tn:Int):=by rw [IntKind.wrap_u64];omega
 refine zl (n:=15) (by kernel_rfl) (by kernel_rfl) ?_
 simp only [List.take_succ_cons,List.take_zero,List.drop_succ_cons,List.drop_zero]
 repeat(first
  |quiet_step (fail))
 refine wpQuiet_nil ?_
 intro w6 hb6
 have hM6:=hM5.below hb6
 have hB6:=(hb6.cell (p:=⟨Bx,0,none⟩) hbB).trans hB5
 have hG6:=A.below_step hG5 hb6
 clear c65 hbl hbB e1 hM5 hB5 hG5 hb6
 go_upto_region 14 with((with_reducible refine zg rfl _ _ _ rfl ?_);refine⟨b,65,q1,c,_,_,(U (bAndn (A.bs (q1 65)) (B.one (tn:Int)))),.u64,rfl,rfl,by decide,rfl,A.size_u64A,hM6,?_⟩;intro w7 hP7 hM7)
 have hB7:w7.cell? ⟨Bx,0,none⟩=some (.pointer (some ⟨b,0,none⟩)):=(hP7.cell (p:=⟨Bx,0,none⟩) hBb).trans hB6
 have hG7:=A.put_grown hG6 hP7
 clear hM6 hB6 hG6 hP7 h181
 rw [show upd q1 65 (U (bAndn (A.bs (q1 65)) (B.one (tn:Int))))=A.pocketT c q (tn:Int)from ET.out.symm]at hM7
 obtain⟨q2,hq2⟩:∃q2,A.pocketT c q (tn:Int)=q2:=⟨_,rfl⟩
 rw [hq2]at hM7 HO2 HO3
 have HQ2:=hid hq2
 clear hq2
 have c65:w7.cell? ⟨b,65,none⟩=some (.int .u64 (U (A.bs (q2 65)))):=by rw [A.c65 HO2.out];exact hM7.atq 65 dc .u64 rfl
 have h176:w7.cell? ⟨b,176,none⟩=some (.int .i8 (F:Int)):=hM7.atm 0 _ rfl
 have hbl:=hM7.lt
 have hbB:=World.block_lt_of_cell? w7 _ hB7
 have e1:=A.one_at F hF64
 have hwu:IntKind.u64.wrap (F:Int)=(F:Int):=by rw [IntKind.wrap_u64];omega
 refine zl (n:=16) (by kernel_rfl) (by kernel_rfl) ?_
 simp only [List.take_succ_cons,List.take_zero,List.drop_succ_cons,List.drop_zero]
 repeat(first
  |quiet_step (fail))
 refine wpQuiet_nil ?_
 intro w8 hb8
 have hM8:=hM7.below hb8
 have hB8:=(hb8.cell (p:=⟨Bx,0,none⟩) hbB).trans hB7
 have hG8:=A.below_step hG7 hb8
 clear c65 hbl hbB e1 hM7 hB7 hG7 hb8
 go_upto_region 15 with((with_reducible refine zg rfl _ _ _ rfl ?_);refine⟨b,65,q2,c,_,_,(U (bAndn (A.bs (q2 65)) (B.one (F:Int)))),.u64,rfl,rfl,by decide,rfl,A.size_u64A,hM8,?_⟩;intro w9 hP9 hM9)
 have hB9:w9.cell? ⟨Bx,0,none⟩=some (.pointer (some ⟨b,0,none⟩)):=(hP9.cell (p:=⟨Bx,0,none⟩) hBb).trans hB8
 have hG9:=A.put_grown hG8 hP9
 clear hM8 hB8 hG8 hP9 h176
 obtain⟨q3,hq3⟩:∃q3,upd q2 65 (U (bAndn (A.bs (q2 65)) (B.one (F:Int))))=q3:=⟨_,rfl⟩
 rw [hq3]at hM9 HO3
 cases hp:(p !=0)
 ·cases hmf:A.mark c (F:Int)
  ·have E:=hid (show A.pocket c q ((F:Int),(G:Int),p,0,false) (tn:Int)=A.unmark q2 (F:Int) by
    unfold A.pocket
    rw [if_neg (fun h=>h.elim (fun h=>h (by simpa using d1)) (fun h=>h rfl)),if_neg sp,if_neg (fun h=>h.elim (fun h=>h (by simpa using hp)) (fun h=>by rw [hmf]at h;cases h)),HQ2.out])
   have HMF:=hid hmf
   clear hmf
   have h178:w9.cell? ⟨b,178,none⟩=some (.int .u8 p):=hM9.atm 2 _ rfl
   have h176:w9.cell? ⟨b,176,none⟩=some (.int .i8 (F:Int)):=hM9.atm 0 _ rfl
   have hbl:=hM9.lt
   go_wp2_with (go_at_call 127;refine(zR c q3 _ _ b Bx F w9 hM9 hB9 HC hF64).mono ?_;rw [HMF.out];rintro e w4 ⟨rfl,rfl⟩)
   first|refine bodyPost_end (results_none rfl _ _ _) rfl ?_|refine bodyPost_ret (results_none rfl _ _ _) rfl ?_
   refine⟨rfl,⟨?_,hG9⟩⟩
   rw [E.out]
   unfold A.unmark
   rw [hq3]
   exact hM9
  ·have E:=hid (show A.pocket c q ((F:Int),(G:Int),p,0,false) (tn:Int)=A.domark (A.unmark q2 (F:Int)) (G:Int) by
    unfold A.pocket
    rw [if_neg (fun h=>h.elim (fun h=>h (by simpa using d1)) (fun h=>h rfl)),if_neg sp,if_pos (.inr hmf),HQ2.out])
   have HMF:=hid hmf
   clear hmf
   have h178:w9.cell? ⟨b,178,none⟩=some (.int .u8 p):=hM9.atm 2 _ rfl
   have h176:w9.cell? ⟨b,176,none⟩=some (.int .i8 (F:Int)):=hM9.atm 0 _ rfl
   have hbl:=hM9.lt
   go_upto_region 16 with(go_at_call 127;refine(zR c q3 _ _ b Bx F w9 hM9 hB9 HC hF64).mono ?_;rw [HMF.out];rintro e w4 ⟨rfl,rfl⟩)
   clear h178 h176 hbl
   have c65:w9.cell? ⟨b,65,none⟩=some (.int .u64 (U (A.bs (q3 65)))):=by rw [A.c65 HO3.out];exact hM9.atq 65 dc .u64 rfl
   have h177:w9.cell? ⟨b,177,none⟩=some (.int .i8 (G:Int)):=hM9.atm 1 _ rfl
   have hbl:=hM9.lt
   have hbB:=World.block_lt_of_cell? w9 _ hB9
   have e1:=A.one_at G hG64
   have hwu:IntKind.u64.wrap (G:Int)=(G:Int):=by rw [IntKind.wrap_u64];omega
   refine zl (n:=16) (by kernel_rfl) (by kernel_rfl) ?_
   simp only [List.take_succ_cons,List.take_zero,List.drop_succ_cons,List.drop_zero]
   repeat(first
    |quiet_step (fail))
   refine wpQuiet_nil ?_
   intro w10 hb10
   have hM10:=hM9.below hb10
   have hB10:=(hb10.cell (p:=⟨Bx,0,none⟩) hbB).trans hB9
   have hG10:=A.below_step hG9 hb10
   clear c65 hbl hbB e1 hM9 hB9 hG9 hb10
   go_wp2_with ((with_reducible refine zg rfl _ _ _ rfl ?_);refine⟨b,65,q3,c,_,_,(U (bOr (A.bs (q3 65)) (B.one (G:Int)))),.u64,rfl,rfl,by decide,rfl,A.size_u64A,hM10,?_⟩;intro w11 hP11 hM11)
   first|refine bodyPost_end (results_none rfl _ _ _) rfl ?_|refine bodyPost_ret (results_none rfl _ _ _) rfl ?_
   refine⟨rfl,⟨?_,A.put_grown hG10 hP11⟩⟩
   rw [E.out]
   unfold A.domark A.unmark
   rw [hq3]
   exact hM11
 ·have E:=hid (show A.pocket c q ((F:Int),(G:Int),p,0,false) (tn:Int)=A.domark (A.unmark q2 (F:Int)) (G:Int) by
   unfold A.pocket
   rw [if_neg (fun h=>h.elim (fun h=>h (by simpa using d1)) (fun h=>h rfl)),if_neg sp,if_pos (.inl (by simpa using hp)),HQ2.out])
  have h178:w9.cell? ⟨b,178,none⟩=some (.int .u8 p):=hM9.atm 2 _ rfl
  have h176:w9.cell? ⟨b,176,none⟩=some (.int .i8 (F:Int)):=hM9.atm 0 _ rfl
  have hbl:=hM9.lt
  go_upto_region 16 with fail
  clear h178 h176 hbl
  have c65:w9.cell? ⟨b,65,none⟩=some (.int .u64 (U (A.bs (q3 65)))):=by rw [A.c65 HO3.out];exact hM9.atq 65 dc .u64 rfl
  have h177:w9.cell? ⟨b,177,none⟩=some (.int .i8 (G:Int)):=hM9.atm 1 _ rfl
  have hbl:=hM9.lt
  have hbB:=World.block_lt_of_cell? w9 _ hB9
  have e1:=A.one_at G hG64
  have hwu:IntKind.u64.wrap (G:Int)=(G:Int):=by rw [IntKind.wrap_u64];omega
  refine zl (n:=16) (by kernel_rfl) (by kernel_rfl) ?_
  simp only [List.take_succ_cons,List.take_zero,List.drop_succ_cons,List.drop_zero]
  repeat(first
   |quiet_step (fail))
  refine wpQuiet_nil ?_
  intro w10 hb10
  have hM10:=hM9.below hb10
  have hB10:=(hb10.cell (p:=⟨Bx,0,none⟩) hbB).trans hB9
  have hG10:=A.below_step hG9 hb10
  clear c65 hbl hbB e1 hM9 hB9 hG9 hb10
  go_wp2_with ((with_reducible refine zg rfl _ _ _ rfl ?_);refine⟨b,65,q3,c,_,_,(U (bOr (A.bs (q3 65)) (B.one (G:Int)))),.u64,rfl,rfl,by decide,rfl,A.size_u64A,hM10,?_⟩;intro w11 hP11 hM11)
  first|refine bodyPost_end (results_none rfl _ _ _) rfl ?_|refine bodyPost_ret (results_none rfl _ _ _) rfl ?_
  refine⟨rfl,⟨?_,A.put_grown hG10 hP11⟩⟩
  rw [E.out]
  unfold A.domark A.unmark
  rw [hq3]
  exact hM11
theorem zft(q c:Nat→Int)(F G:Nat)(p:Int)(t:Int)(b:Nat)(w:World)(hM:A.MvAt w b q c ((F:Int),(G:Int),p,0,false) t)(hF64:F<64)(hG64:G<64)(hc:PosOk c)(hq:PosOk q)(ht64:t<64)(d1:(q 0 !=2)=false):
  cR 53 #[.pointer (some ⟨b,0,none⟩)] w (.tuple #[]) fun w'=>A.Step b (A.pocket c q ((F:Int),(G:Int),p,0,false) t) c ((F:Int),(G:Int),p,0,false) t w w':=by
 cases dt:decide (0≤t)
 ·exact zda q c F G p t b w hM hF64 hG64 hc hq d1 dt
 ·have ht0:0≤t:=by simpa using dt
  obtain⟨tn,ht⟩:∃tn:Nat,t=(tn:Int):=⟨t.toNat,by omega⟩
  have htn:tn<64:=by omega
  cases hmk:A.mark c (tn:Int)
  ·exact zdq q c F G p t b w hM hF64 hG64 hc hq d1 tn htn ht hmk
  ·cases hne:(c (1+tn) !=0)
   ·exact zdE q c F G p t b w hM hF64 hG64 hc hq d1 tn htn ht hmk hne
   ·exact zdH q c F G p t b w hM hF64 hG64 hc hq d1 tn htn ht hmk hne
end
section
open Go.RowKit Go.Sort
namespace A
theorem zic{color kind:Int}(h0:0≤color)(h:fits color kind=true):pk6 color kind<78:=by
 obtain⟨h1,h2⟩:=fits_cases h0 h
 rcases h1 with rfl|rfl<;>rcases h2 with rfl|rfl|rfl|rfl|rfl<;>decide
theorem add_78(q:Nat→Int)(color kind:Int)(i:Nat)(h0:0≤color)(hi:78≤i):add q color kind i=q i:=by
 unfold add
 split
 ·rename_i h
  exact u_ne _ _ (by have:=zic h0 h.1;omega)
 ·rfl
theorem zhW(q:Nat→Int)(color kind:Int)(i:Nat)(h0:0≤color)(hi:78≤i):take q color kind i=q i:=by
 unfold take
 split
 ·rename_i h
  exact u_ne _ _ (by have:=zic h0 h.1;omega)
 ·rfl
theorem men_78(c:Nat→Int)(F G:Nat)(p d:Int)(ca:Bool)(t:Int)(hF:F<64)(hG:G<64)(ht:t<64)(h0:0≤c 78)(hk:ca=true→kg c ((F:Int),(G:Int),p,d,ca)<64∧rg c ((F:Int),(G:Int),p,d,ca)<64):men c ((F:Int),(G:Int),p,d,ca) t 78=c 78:=by
 have hcF:cellF ((F:Int),(G:Int),p,d,ca)=1+F:=by unfold cellF;simp
 have hcG:cellT ((F:Int),(G:Int),p,d,ca)=1+G:=by unfold cellT;simp
 have hT:(if 0≤t then upd c (1+t.toNat) 0 else c) 78=c 78:=by
  split
  ·exact u_ne _ _ om
  ·rfl
 unfold men
 rw [hcF,hcG]
 split
 ·rename_i h
  obtain⟨k1,k2⟩:=hk h
  rw [u_ne _ _ om,u_ne _ _ om,u_ne _ _ om,u_ne _ _ om]
 ·split
  ·rw [u_ne _ _ om,zhW _ _ _ _ h0 om]
  ·split
   ·rw [u_ne _ _ om,u_ne _ _ om,u_ne _ _ om,hT]
   ·rw [u_ne _ _ om,u_ne _ _ om,hT]
theorem zgy{q:Nat→Int}(c:Nat→Int)(m:Mv)(t:Int)(h0:0≤q 78):pocket c q m t 78=q 78:=by
 have hT:pocketT c q t 78=q 78:=by
  unfold pocketT
  split
  ·unfold unmark
   rw [u_ne _ _ om,add_78 _ _ _ _ h0 om]
  ·rfl
 unfold pocket
 split
 ·rfl
 ·split
  ·split
   ·unfold domark unmark
    rw [u_ne _ _ om,u_ne _ _ om]
   ·rfl
  ·split
   ·unfold domark unmark
    rw [u_ne _ _ om,u_ne _ _ om,hT]
   ·unfold unmark
    rw [u_ne _ _ om,hT]
theorem ziV(q:Nat→Int)(m:Mv)(t:Int):blow q m t 78=q 78:=by
 unfold blow
 split
 ·rfl
 ·refine wipe_bd _ 78 _ (fun x hx e=> ?_)
  unfold B.list at hx
  have:=List.mem_range.1 (List.mem_filter.1 hx).1
  omega
theorem zfc(c q:Nat→Int)(m:Mv):rights0 c q m 78=q 78:=by
 unfold rights0
 split
 ·rw [u_ne _ _ om,u_ne _ _ om]
 ·rfl
theorem za6(q:Nat→Int)(m:Mv)(t:Int)(col side:Nat):rights1 q m t col side 78=q 78:=by
 unfold rights1
 split
 ·exact u_ne _ _ om
 ·rfl
theorem zf8(c q:Nat→Int)(m:Mv)(t:Int):rights c q m t 78=q 78:=by
 unfold rights
 rw [za6,za6,za6,za6,zfc]
theorem zi4(c q:Nat→Int)(m:Mv):pass c q m 78=q 78:=by
 unfold pass
 split
 ·rw [u_ne _ _ om,u_ne _ _ om]
 ·exact u_ne _ _ om
theorem zfF(c q:Nat→Int)(m:Mv)(t:Int):clocks c q m t 78=q 78:=by
 unfold clocks
 try dsimp only
 split
 ·rw [u_ne _ _ om,u_ne _ _ om]
 ·exact u_ne _ _ om
def step(c:Nat→Int)(m:Mv)(t:Int):Nat→Nat→Int
 |0=>c
 |1=>men c m t
 |2=>pocket c (men c m t) m t
 |3=>blow (pocket c (men c m t) m t) m t
 |4=>rights c (blow (pocket c (men c m t) m t) m t) m t
 |5=>pass c (rights c (blow (pocket c (men c m t) m t) m t) m t) m
 |6=>clocks c (pass c (rights c (blow (pocket c (men c m t) m t) m t) m t) m) m t
 |_=>after c m t
structure Fine (c:Nat→Int) (F G:Nat) (p d:Int) (ca:Bool) (t:Int):Prop where
 F64:F<64
 G64:G<64
 p0:0≤p
 p1:p≤255
 d0:0≤d
 d1:d≤255
 t64:t<64
 c78:c 78≤1
 ok:PosOk c
 kr:ca=true→kg c ((F:Int),(G:Int),p,d,ca)<64∧rg c ((F:Int),(G:Int),p,d,ca)<64
 cast:ca=true→d=0∧∃kgn rgn:Nat,kgn<64∧rgn<64∧T.goalsV c (T.side c F G true)= .tuple #[.int .i64 (kgn:Int),.int .i64 (rgn:Int),.bool true]∧kg c ((F:Int),(G:Int),p,d,ca)=kgn∧rg c ((F:Int),(G:Int),p,d,ca)=rgn
theorem fine_of(c:Nat→Int)(m:Mv)(hc:PosOk c)(h:m∈all c):∃F G p d ca,m=(((F:Nat):Int),((G:Nat):Int),p,d,ca)∧Fine c F G p d ca (Z.taken c m):=by
 have ht:=(zhP c m).2
 obtain⟨h78,h|h|h⟩:=all_mem c m hc h
 ·obtain⟨F,G,k,hF,hG,hk,rfl⟩:=h
  exact⟨F,G,k,0,false,rfl,⟨hF,hG,by omega,by omega,by omega,by omega,ht,h78,hc,(fun e=>by cases e),(fun e=>by cases e)⟩⟩
 ·obtain⟨F,G,kgn,rgn,hF,hG,hk,hr,hgo,ek,er,rfl⟩:=h
  exact⟨F,G,0,0,true,rfl,⟨hF,hG,by omega,by omega,by omega,by omega,ht,h78,hc,(fun _=>by rw [ek,er];exact⟨hk,hr⟩),(fun _=>⟨rfl,kgn,rgn,hk,hr,hgo,ek,er⟩)⟩⟩
 ·obtain⟨s,k,hs,h1,h5,rfl⟩:=h
  exact⟨s,s,0,k,false,rfl,⟨hs,hs,by omega,by omega,by omega,by omega,ht,h78,hc,(fun e=>by cases e),(fun e=>by cases e)⟩⟩
section
variable {c:Nat→Int} {F G:Nat} {p d:Int} {ca:Bool} {t:Int} (h:Fine c F G p d ca t)
include h
theorem Fine.t0:0≤c 78:=(zp h.ok (i:=78) dc rfl).1
theorem Fine.step_ok:∀n,n≤7→PosOk (step c ((F:Int),(G:Int),p,d,ca) t n)∧(n≤6→step c ((F:Int),(G:Int),p,d,ca) t n 78=c 78):=by
 have h1:=ok_men h.ok F G p d ca t h.F64 h.G64 h.c78 ⟨h.p0,h.p1⟩ ⟨h.d0,h.d1⟩ h.t64 h.kr
 have e1:=men_78 c F G p d ca t h.F64 h.G64 h.t64 h.t0 h.kr
 have h2:=zfy h1 c ((F:Int),(G:Int),p,d,ca) t
 have e2:=zgy c ((F:Int),(G:Int),p,d,ca) t (show 0≤men c ((F:Int),(G:Int),p,d,ca) t 78 by rw [e1];exact h.t0)
 rw [e1]at e2
 have h3:=zi8 h2 ((F:Int),(G:Int),p,d,ca) t
 have e3:=ziV (pocket c (men c ((F:Int),(G:Int),p,d,ca) t) ((F:Int),(G:Int),p,d,ca) t) ((F:Int),(G:Int),p,d,ca) t
 rw [e2]at e3
 have h4:=zg5 h3 c ((F:Int),(G:Int),p,d,ca) t (by rw [e3];exact h.c78)
 have e4:=zf8 c (blow (pocket c (men c ((F:Int),(G:Int),p,d,ca) t) ((F:Int),(G:Int),p,d,ca) t) ((F:Int),(G:Int),p,d,ca) t) ((F:Int),(G:Int),p,d,ca) t
 rw [e3]at e4
 have h5:=ziD h4 c F G p d ca h.F64 h.G64
 have e5:=zi4 c (rights c (blow (pocket c (men c ((F:Int),(G:Int),p,d,ca) t) ((F:Int),(G:Int),p,d,ca) t) ((F:Int),(G:Int),p,d,ca) t) ((F:Int),(G:Int),p,d,ca) t) ((F:Int),(G:Int),p,d,ca)
 rw [e4]at e5
 have h6:=zgJ h5 c ((F:Int),(G:Int),p,d,ca) t
 have e6:=zfF c (pass c (rights c (blow (pocket c (men c ((F:Int),(G:Int),p,d,ca) t) ((F:Int),(G:Int),p,d,ca) t) ((F:Int),(G:Int),p,d,ca) t) ((F:Int),(G:Int),p,d,ca) t) ((F:Int),(G:Int),p,d,ca)) ((F:Int),(G:Int),p,d,ca) t
 rw [e5]at e6
 have h7:=zij h6 (by rw [e6];exact h.c78)
 intro n hn
 match n,hn with
 |0,_=>exact⟨h.ok,fun _=>rfl⟩
 |1,_=>exact⟨h1,fun _=>e1⟩
 |2,_=>exact⟨h2,fun _=>e2⟩
 |3,_=>exact⟨h3,fun _=>e3⟩
 |4,_=>exact⟨h4,fun _=>e4⟩
 |5,_=>exact⟨h5,fun _=>e5⟩
 |6,_=>exact⟨h6,fun _=>e6⟩
 |7,_=>exact⟨h7,fun h=>by omega⟩
end
end A
section
variable {c:Nat→Int} {F G:Nat} {p d:Int} {ca:Bool} {t:Int} (h:A.Fine c F G p d ca t) {b:Nat} {w0 w:World}
include h
theorem ziw(hM:A.MvAt w b (A.step c ((F:Int),(G:Int),p,d,ca) t 0) c ((F:Int),(G:Int),p,d,ca) t):
  cR 52 #[.pointer (some ⟨b,0,none⟩)] w (.tuple #[]) fun w'=>A.Step b (A.step c ((F:Int),(G:Int),p,d,ca) t 1) c ((F:Int),(G:Int),p,d,ca) t w w':=by
 cases ca
 ·cases hd:(d !=0)
  ·cases dt:decide (0≤t)
   ·cases hp:(p !=0)
    ·exact zja c F G p d t b w hM h.F64 h.G64 h.ok hd hp h.p0 h.p1 dt
    ·exact ziu c F G p d t b w hM h.F64 h.G64 h.ok hd hp h.p0 h.p1 dt
   ·have ht0:0≤t:=by simpa using dt
    have ht64:=h.t64
    cases hp:(p !=0)
    ·exact ziq c F G p d t b w hM h.F64 h.G64 h.ok hd hp h.p0 h.p1 t.toNat om om
    ·exact zi1 c F G p d t b w hM h.F64 h.G64 h.ok hd hp h.p0 h.p1 t.toNat om om
  ·exact zfY c F G p d t b w hM h.G64 h.ok hd h.d0 h.d1
 ·obtain⟨_,kgn,rgn,hk,hr,hgo,ek,er⟩:=h.cast rfl
  exact zdZ c F G p d t b w hM h.G64 h.ok h.F64 kgn rgn hk hr hgo ek er
theorem ziX(hM:A.MvAt w b (A.step c ((F:Int),(G:Int),p,d,ca) t 1) c ((F:Int),(G:Int),p,d,ca) t):
  cR 53 #[.pointer (some ⟨b,0,none⟩)] w (.tuple #[]) fun w'=>A.Step b (A.step c ((F:Int),(G:Int),p,d,ca) t 2) c ((F:Int),(G:Int),p,d,ca) t w w':=by
 have hq:=(h.step_ok 1 dc).1
 show Calls _ _ _ _ fun e w'=>e= .returned (.tuple #[])∧A.Step b (A.pocket c (A.step c ((F:Int),(G:Int),p,d,ca) t 1) ((F:Int),(G:Int),p,d,ca) t) c ((F:Int),(G:Int),p,d,ca) t w w'
 generalize A.step c ((F:Int),(G:Int),p,d,ca) t 1=q at*
 cases d1:(q 0 !=2)
 ·cases ca
  ·cases hd:(d !=0)
   ·have hd0:d=0:=by simpa using hd
    subst hd0
    exact zft q c F G p t b w hM h.F64 h.G64 h.ok hq h.t64 d1
   ·exact zf7 q c F G p d false t b w hM d1 hd
  ·obtain⟨hd0,kgn,rgn,hk,hr,hgo,ek,er⟩:=h.cast rfl
   subst hd0
   cases hm:A.mark c (G:Int)
   ·exact zfn q c F G p t b w hM h.F64 h.G64 h.ok d1 kgn rgn hgo hm
   ·exact zfm q c F G p t b w hM h.F64 h.G64 h.ok hq d1 kgn rgn hgo hr er hm
 ·exact zgb q c F G p d ca t b w hM d1
theorem ziK(hM:A.MvAt w b (A.step c ((F:Int),(G:Int),p,d,ca) t 2) c ((F:Int),(G:Int),p,d,ca) t)(hC:A.Ctx w0 w b):
  cR 54 #[.pointer (some ⟨b,0,none⟩)] w (.tuple #[]) fun w'=>A.Step b (A.step c ((F:Int),(G:Int),p,d,ca) t 3) c ((F:Int),(G:Int),p,d,ca) t w w':=
 zg4 _ c F G p d ca t b w0 w hM hC h.G64 (zw (h.step_ok 2 dc).1)
theorem ziI(hM:A.MvAt w b (A.step c ((F:Int),(G:Int),p,d,ca) t 4) c ((F:Int),(G:Int),p,d,ca) t):
  cR 56 #[.pointer (some ⟨b,0,none⟩)] w (.tuple #[]) fun w'=>A.Step b (A.step c ((F:Int),(G:Int),p,d,ca) t 5) c ((F:Int),(G:Int),p,d,ca) t w w':=
 zgf _ c F G p d ca t b w hM h.F64 h.G64 (zw h.ok) (h.step_ok 4 dc).1 (by have:=(h.step_ok 4 dc).2 dc;have h7:=h.c78;rw [←this]at h7;exact h7)
theorem ziE(hM:A.MvAt w b (A.step c ((F:Int),(G:Int),p,d,ca) t 5) c ((F:Int),(G:Int),p,d,ca) t):
  cR 57 #[.pointer (some ⟨b,0,none⟩)] w (.tuple #[]) fun w'=>A.Step b (A.step c ((F:Int),(G:Int),p,d,ca) t 6) c ((F:Int),(G:Int),p,d,ca) t w w':=
 zei _ c F G p d ca t b w hM h.F64 (zw h.ok) (h.step_ok 5 dc).1
theorem ziJ(hM:A.MvAt w b (A.step c ((F:Int),(G:Int),p,d,ca) t 6) c ((F:Int),(G:Int),p,d,ca) t)(hC:A.Ctx w0 w b):
  cR 58 #[.pointer (some ⟨b,0,none⟩)] w (.tuple #[]) fun w'=>A.Step b (A.step c ((F:Int),(G:Int),p,d,ca) t 7) c ((F:Int),(G:Int),p,d,ca) t w w':=
 zgG _ c _ t b w0 w hM hC (h.step_ok 6 dc).1 (by have:=(h.step_ok 6 dc).2 dc;have h7:=h.c78;rw [←this]at h7;exact h7)
end
end
end Go.Proofs.YtbakeajgolhkgaaGreatDoor
