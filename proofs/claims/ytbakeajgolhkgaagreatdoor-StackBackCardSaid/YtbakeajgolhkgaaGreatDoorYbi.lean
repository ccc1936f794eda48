import Derived.Test.YtbakeajgolhkgaaGreatDoorYbf
import Derived.Test.YtbakeajgolhkgaaGreatDoorYbh
set_option maxRecDepth 100000
set_option maxHeartbeats 8000000
open Go.Lib (hid)
namespace Go.Proofs.YtbakeajgolhkgaaGreatDoor
open Go.Proofs.Tryz
open Go.RowKit Go.Sort
theorem zci(y:Int)(w:World):cB 190 #[.int .u8 y] w (.agg (Lg.res 3 y)):=by
 go_enter func190,ntmps190
 go_wp2_with ((with_reducible refine zb rfl 49 _ _ rfl ?_);refine⟨w.heap.size,49,Lg.res 3 y,rfl,rfl,⟨_,heap_alloc_new _ _,rfl⟩,Lg.size_res,Lg.res_one _ _,?_⟩;intro W9 hP9 hr9)
 exact bodyPost_ret (v:= .agg (Lg.res 3 y)) (results_cell_row results190 _ _ w.heap.size 49 _ (0,0) _ rfl hr9.heap underlying49 rfl Lg.size_res) rfl ⟨rfl,hP9.below bA (Nat.le_refl _)⟩
def Oc.lateR(b:Bool):Int×Int:=if b=true then(3,4)else(0,0)
def Oc.littleR(b:Bool):Int×Int:=if b=true then(3,3)else(0,0)
theorem zgv(c:Nat→Int)(w:World):cB 115 #[.agg (posC c)] w (.agg (Lg.resP (Oc.lateR (decide (150≤c 86))))):=by
 have hp:=(PosAt.new w c).alloc (.cells #[.int .u8 0,.int .u8 0] 49)
 have hr:=RowAt.new (w.alloc (.cells (posC c) 31)) #[.int .u8 0,.int .u8 0] 49
 have hb:Below w.heap.size w ((w.alloc (.cells (posC c) 31)).alloc (.cells #[.int .u8 0,.int .u8 0] 49)):=bA.alloc sp _
 rw [World.size_alloc]at hr
 have k86:=hp.cellK 86 dc .i64 rfl
 obtain⟨x,hx⟩:∃x,c 86=x:=⟨_,rfl⟩
 rw [hx]at k86⊢
 obtain⟨b,hbx⟩:∃b,decide (150≤x)=b:=⟨_,rfl⟩
 rw [hbx]
 clear hx
 cases b
 all_goals
  go_enter func115,ntmps115
  go_wp2_with (first
   |(go_at_call 190;refine(zci _ _).mono ?_;rintro e w2 ⟨rfl,hb2⟩;replace hr:=hr.below hb2;replace hb:=za hb hb2;clear hb2)
   |((with_reducible refine zb rfl 49 _ _ rfl ?_);refine⟨w.heap.size+1,49,Lg.res _ _,rfl,rfl,⟨_,hr.heap,rfl⟩,Lg.size_res,Lg.res_one _ _,?_⟩;intro W9 hP9 hr9))
  exact bodyPost_ret (results_cell_row results115 _ _ (w.heap.size+1) 49 _ (0,0) _ rfl hr9.heap underlying49 rfl Lg.size_res) rfl ⟨rfl,hP9.below hb om⟩
theorem zie(c:Nat→Int)(k:Int)(w:World)(hc:PosOk c):cB 271 #[.agg (posC c),.int .u8 k] w (.int .u64 (U (G.kinds c k))):=by
 have hp:=PosAt.new w c
 have hb:Below w.heap.size w (w.alloc (.cells (posC c) 31)):=bA
 have HB:=hid (zw hc)
 have HO:=hid (bv_or (S.of c 0 k) (S.of c 1 k))
 clear hc
 go_enter func271,ntmps271
 go_upto_region 1 with fail
 refine rB ?_
 repeat(first
  |(go_big_quiet_want;refine zaM _ rfl ⟨w.heap.size,_,_,rfl,hp.in',?_⟩;simp only [Act.put,sA,sB,sC];go_big_quiet_on)
  |go_big_quiet_step (first
   |(go_at_call 134;exact zd (zO c 0 k _ HB))
   |(go_at_call 134;exact zd (zO c 1 k _ HB))))
 refine wpQuiet_nil ?_
 intro w2 hb2
 go_wp2
 go_ret
 exact⟨rfl,za hb hb2⟩
theorem Oc.u_zero(x:BitVec 64):(U x==0)=(x==0#64):=by
 have h:(U x=0)↔x=0#64:=by
  unfold U
  constructor
  ·intro h;exact BitVec.eq_of_toNat_eq (by rw [show(0#64:BitVec 64).toNat=0 from rfl];omega)
  ·intro h;rw [h];rfl
 rw [Bool.eq_iff_iff,beq_iff_eq,beq_iff_eq,h]
theorem Oc.u_ne(x:BitVec 64):(U x !=0)=(x !=0#64):=by unfold bne;rw [Oc.u_zero]
theorem Oc.u_eq(x y:BitVec 64):(U x==U y)=(x==y):=by
 have h:(U x=U y)↔x=y:=by
  unfold U
  constructor
  ·intro h;exact BitVec.eq_of_toNat_eq om
  ·intro h;rw [h]
 rw [Bool.eq_iff_iff,beq_iff_eq,beq_iff_eq,h]
theorem Oc.u_light:(6172840429334713770:Int)=U G.light:=by decide+kernel
theorem zhC(c:Nat→Int)(w:World)(hc:PosOk c):cB 191 #[.agg (posC c)] w (.bool (G.material c)):=by
 have hp:=PosAt.new w c
 have hb:Below w.heap.size w (w.alloc (.cells (posC c) 31)):=bA
 obtain⟨W1,hW1⟩:∃W,w.alloc (.cells (posC c) 31)=W:=⟨_,rfl⟩
 rw [hW1]at hp hb
 have HB:=hid (zw hc)
 have HO:=hid (fun k W=>zie c k W hc)
 obtain⟨v,hv⟩:∃v,c 0=v:=⟨_,rfl⟩
 have HK:=hid (fun W (h:PosAt W w.heap.size c)=>(show W.cell? ⟨w.heap.size,0,none⟩=some (.int .u8 v) by have:=h.cellK 0 dc .u8 rfl;rwa [hv]at this))
 have k0:=HK _ hp
 by_cases hs:v=0∨v=1
 ·have HE:=hid (show G.material c=G.few c by unfold G.material;rw [hv,if_pos hs])
  have h1:=Oc.u_ne (bAndn (bAndn (bAndn (S.all c) (G.kinds c 6)) (G.kinds c 3)) (G.kinds c 2))
  have h2:=Oc.u_eq (bAndn (S.all c) (G.kinds c 6)) (G.kinds c 3)
  have h3:=Oc.u_zero (bAnd (bAndn (S.all c) (G.kinds c 6)) G.light)
  have h4:=Oc.u_zero (bAndn (bAndn (S.all c) (G.kinds c 6)) G.light)
  have hl1:=zeK (bAndn (S.all c) (G.kinds c 6)) G.light
  have hl2:=za1 (bAndn (S.all c) (G.kinds c 6)) G.light
  rw [←Oc.u_light]at hl1 hl2
  have HC:=hid (fun W=>zcn (bAndn (S.all c) (G.kinds c 6)).toNat W (bv_lt _))
  obtain⟨z1,e1⟩:∃z,(bAndn (bAndn (bAndn (S.all c) (G.kinds c 6)) (G.kinds c 3)) (G.kinds c 2) !=0#64)=z:=⟨_,rfl⟩
  obtain⟨z2,e2⟩:∃z,(bAndn (S.all c) (G.kinds c 6)==G.kinds c 3)=z:=⟨_,rfl⟩
  obtain⟨z3,e3⟩:∃z,(bAnd (bAndn (S.all c) (G.kinds c 6)) G.light==0#64)=z:=⟨_,rfl⟩
  obtain⟨z4,e4⟩:∃z,(bAndn (bAndn (S.all c) (G.kinds c 6)) G.light==0#64)=z:=⟨_,rfl⟩
  obtain⟨n,hn⟩:∃n,B.count (bAndn (S.all c) (G.kinds c 6))=n:=⟨_,rfl⟩
  have HF:=hid (show G.few c=if z1=true then false else decide (n≤1)||(z2&&(z3||z4)) by
   unfold G.few G.men6
   rw [hn,e2,e3,e4,←e1]
   by_cases h:bAndn (bAndn (bAndn (S.all c) (G.kinds c 6)) (G.kinds c 3)) (G.kinds c 2)=0#64
   ·rw [if_neg (fun k=>k h),if_neg (by rw [h];simp)]
   ·rw [if_pos h,if_pos (by rw [bne_iff_ne];exact h)])
  rw [e1]at h1
  rw [e2]at h2
  rw [e3]at h3
  rw [e4]at h4
  replace HC:Hid (∀W,cR 272 #[.int .u64 (U (bAndn (S.all c) (G.kinds c 6)))] W (.int .i64 (n:Int)) fun w'=>W=w'):=hid (fun W=>by rw [←hn];exact HC W)
  clear e1 e2 e3 e4 hn hc hv
  rcases hs with rfl|rfl
  all_goals
   cases z1
   case true=>
    have HG:=hid (HE.trans (HF.trans (if_pos rfl)))
    clear HE HF HC
    go_enter func191,ntmps191
    go_upto_region 1 with fail
    clear hW1
    go_wp2_with (first
     |((with_reducible refine ze rfl _ rfl ?_);refine⟨_,_,rfl,hp,?_⟩)
     |(go_at_call 197;refine(zan c _ HB).mono ?_;rintro e w2 ⟨rfl,hb2⟩;replace hp:=hp.below hb2;replace hb:=za hb hb2;clear hb2 k0;have k0:=HK _ hp)
     |(go_at_call 271;refine(HO _ _).mono ?_;rintro e w3 ⟨rfl,hb2⟩;replace hp:=hp.below hb2;replace hb:=za hb hb2;clear hb2 k0;have k0:=HK _ hp)
     |(go_at_call 272;refine(HC _).mono ?_;rintro e w4 ⟨rfl,rfl⟩))
    go_ret
    exact⟨zy HG.symm,hb⟩
   case false=>
    have HG:=hid (HE.trans (HF.trans (if_neg sp)))
    clear HE HF
    by_cases h1n:n≤1
    ·have d1:decide ((n:Int)≤1)=true:=decide_eq_true om
     have d2:decide (n≤1)=true:=decide_eq_true h1n
     clear h1n
     go_enter func191,ntmps191
     go_upto_region 1 with fail
     clear hW1
     go_wp2_with (first
      |((with_reducible refine ze rfl _ rfl ?_);refine⟨_,_,rfl,hp,?_⟩)
      |(go_at_call 197;refine(zan c _ HB).mono ?_;rintro e w2 ⟨rfl,hb2⟩;replace hp:=hp.below hb2;replace hb:=za hb hb2;clear hb2 k0;have k0:=HK _ hp)
      |(go_at_call 271;refine(HO _ _).mono ?_;rintro e w3 ⟨rfl,hb2⟩;replace hp:=hp.below hb2;replace hb:=za hb hb2;clear hb2 k0;have k0:=HK _ hp)
      |(go_at_call 272;refine(HC _).mono ?_;rintro e w4 ⟨rfl,rfl⟩))
     go_ret
     exact⟨zy (by rw [HG.out,d2];rfl),hb⟩
    ·have d1:decide ((n:Int)≤1)=false:=decide_eq_false om
     have d2:decide (n≤1)=false:=decide_eq_false h1n
     clear h1n
     cases z2<;>cases z3
     all_goals
      go_enter func191,ntmps191
      go_upto_region 1 with fail
      clear hW1
      go_wp2_with (first
       |((with_reducible refine ze rfl _ rfl ?_);refine⟨_,_,rfl,hp,?_⟩)
       |(go_at_call 197;refine(zan c _ HB).mono ?_;rintro e w2 ⟨rfl,hb2⟩;replace hp:=hp.below hb2;replace hb:=za hb hb2;clear hb2 k0;have k0:=HK _ hp)
       |(go_at_call 271;refine(HO _ _).mono ?_;rintro e w3 ⟨rfl,hb2⟩;replace hp:=hp.below hb2;replace hb:=za hb hb2;clear hb2 k0;have k0:=HK _ hp)
       |(go_at_call 272;refine(HC _).mono ?_;rintro e w4 ⟨rfl,rfl⟩))
      go_ret
      exact⟨zy (by rw [HG.out,d2];simp),hb⟩
 ·by_cases hs2:v=3∨v=5
  ·have HE:=hid (show G.material c=G.bare c by unfold G.material;rw [hv,if_neg hs,if_pos hs2])
   have h1:=Oc.u_eq (S.all c) (bOr (S.of c 0 6) (S.of c 1 6))
   obtain⟨z1,e1⟩:∃z,(S.all c==bOr (S.of c 0 6) (S.of c 1 6))=z:=⟨_,rfl⟩
   obtain⟨n,hn⟩:∃n,B.count (S.of c 0 6)=n:=⟨_,rfl⟩
   obtain⟨m,hm⟩:∃m,B.count (S.of c 1 6)=m:=⟨_,rfl⟩
   have HG:=hid (show G.material c=(z1&&(n==1&&m==1)) by rw [HE.out];unfold G.bare;rw [e1,hn,hm])
   have HCn:Hid (∀W,cR 272 #[.int .u64 (U (S.of c 0 6))] W (.int .i64 (n:Int)) fun w'=>W=w'):=hid (fun W=>by rw [←hn];exact zcn _ W (bv_lt _))
   have HCm:Hid (∀W,cR 272 #[.int .u64 (U (S.of c 1 6))] W (.int .i64 (m:Int)) fun w'=>W=w'):=hid (fun W=>by rw [←hm];exact zcn _ W (bv_lt _))
   have q1:((n:Int)==1)=(n==1):=by rw [Bool.eq_iff_iff,beq_iff_eq,beq_iff_eq];omega
   have q2:((m:Int)==1)=(m==1):=by rw [Bool.eq_iff_iff,beq_iff_eq,beq_iff_eq];omega
   obtain⟨y1,hy1⟩:∃y,(n==1)=y:=⟨_,rfl⟩
   obtain⟨y2,hy2⟩:∃y,(m==1)=y:=⟨_,rfl⟩
   rw [e1]at h1
   rw [hy1]at q1 HG
   rw [hy2]at q2 HG
   clear e1 hn hm hc hv HE hy1 hy2 hs
   rcases hs2 with rfl|rfl
   all_goals
    cases z1<;>cases y1
    all_goals
     go_enter func191,ntmps191
     go_upto_region 1 with fail
     clear hW1
     go_upto_region 12 with(first
      |((with_reducible refine ze rfl _ rfl ?_);refine⟨_,_,rfl,hp,?_⟩)
      |(go_at_call 197;refine(zan c _ HB).mono ?_;rintro e w2 ⟨rfl,hb2⟩;replace hp:=hp.below hb2;replace hb:=za hb hb2;clear hb2 k0;have k0:=HK _ hp)
      |(go_at_call 271;refine(HO _ _).mono ?_;rintro e w3 ⟨rfl,hb2⟩;replace hp:=hp.below hb2;replace hb:=za hb hb2;clear hb2 k0;have k0:=HK _ hp))
     refine rB ?_
     repeat(first
      |(go_big_quiet_want;refine zaM _ rfl ⟨w.heap.size,_,_,rfl,hp.in',?_⟩;simp only [Act.put,sA,sB,sC];go_big_quiet_on)
      |go_big_quiet_step (first
       |(go_at_call 134;exact zd (zO c 0 6 _ HB))
       |(go_at_call 134;exact zd (zO c 1 6 _ HB))))
     refine wpQuiet_nil ?_
     intro w5 hb5
     replace hb:=za hb hb5
     clear hp k0 hb5
     go_wp2_with (first
      |(go_at_call 272;with_reducible refine(HCn.out _).mono ?_;rintro e w4 ⟨rfl,rfl⟩)
      |(go_at_call 272;with_reducible refine(HCm.out _).mono ?_;rintro e w4 ⟨rfl,rfl⟩))
     go_ret
     exact⟨zy (by rw [HG.out];simp),hb⟩
  ·have HE:=hid (show G.material c=false by unfold G.material;rw [hv,if_neg hs,if_neg hs2])
   have q0:(v==0)=false:=by rw [beq_eq_false_iff_ne];omega
   have q1:(v==1)=false:=by rw [beq_eq_false_iff_ne];omega
   have q3:(v==3)=false:=by rw [beq_eq_false_iff_ne];omega
   have q5:(v==5)=false:=by rw [beq_eq_false_iff_ne];omega
   clear hs hs2 hc hv
   go_enter func191,ntmps191
   go_upto_region 1 with fail
   clear hW1
   go_wp2_with (first
    |((with_reducible refine ze rfl _ rfl ?_);refine⟨_,_,rfl,hp,?_⟩)
    |(go_at_call 197;refine(zan c _ HB).mono ?_;rintro e w2 ⟨rfl,hb2⟩;replace hp:=hp.below hb2;replace hb:=za hb hb2;clear hb2 k0;have k0:=HK _ hp)
    |(go_at_call 271;refine(HO _ _).mono ?_;rintro e w3 ⟨rfl,hb2⟩;replace hp:=hp.below hb2;replace hb:=za hb hb2;clear hb2 k0;have k0:=HK _ hp))
   go_ret
   exact⟨zy HE.symm,hb⟩
theorem zeo(c:Nat→Int)(w:World)(hc:PosOk c):cB 114 #[.agg (posC c)] w (.agg (Lg.resP (Oc.littleR (G.material c)))):=by
 have hp:=(PosAt.new w c).alloc (.cells #[.int .u8 0,.int .u8 0] 49)
 have hr:=RowAt.new (w.alloc (.cells (posC c) 31)) #[.int .u8 0,.int .u8 0] 49
 have hb:Below w.heap.size w ((w.alloc (.cells (posC c) 31)).alloc (.cells #[.int .u8 0,.int .u8 0] 49)):=bA.alloc sp _
 rw [World.size_alloc]at hr
 have HM:=hid (fun W=>zhC c W hc)
 obtain⟨b,hbx⟩:∃b,G.material c=b:=⟨_,rfl⟩
 rw [hbx]at HM⊢
 clear hbx hc
 cases b
 all_goals
  go_enter func114,ntmps114
  go_wp2_with (first
   |((with_reducible refine ze rfl _ rfl ?_);refine⟨_,_,rfl,hp,?_⟩)
   |(go_at_call 191;refine(HM _).mono ?_;rintro e w2 ⟨rfl,hb2⟩;replace hr:=hr.below hb2;replace hb:=za hb hb2;clear hb2)
   |(go_at_call 190;refine(zci _ _).mono ?_;rintro e w2 ⟨rfl,hb2⟩;replace hr:=hr.below hb2;replace hb:=za hb hb2;clear hb2)
   |((with_reducible refine zb rfl 49 _ _ rfl ?_);refine⟨w.heap.size+1,49,Lg.res _ _,rfl,rfl,⟨_,hr.heap,rfl⟩,Lg.size_res,Lg.res_one _ _,?_⟩;intro W9 hP9 hr9))
  exact bodyPost_ret (results_cell_row results114 _ _ (w.heap.size+1) 49 _ (0,0) _ rfl hr9.heap underlying49 rfl Lg.size_res) rfl ⟨rfl,hP9.below hb om⟩
theorem ze3(c:Nat→Int)(w:World)(hc:PosOk c)(hT:Tb w)(h78:c 78≤1):cB 113 #[.agg (posC c)] w (.agg (Lg.resP (G.stuck c))):=by
 have hp:=(PosAt.new w c).alloc (.cells #[.int .u8 0,.int .u8 0] 49)
 have hr:=RowAt.new (w.alloc (.cells (posC c) 31)) #[.int .u8 0,.int .u8 0] 49
 have hb:Below w.heap.size w ((w.alloc (.cells (posC c) 31)).alloc (.cells #[.int .u8 0,.int .u8 0] 49)):=bA.alloc sp _
 rw [World.size_alloc]at hr
 have t0:=zp hc (i:=78) dc rfl
 have v0:=zp hc (i:=0) dc rfl
 obtain⟨v,hv⟩:∃v,c 0=v:=⟨_,rfl⟩
 obtain⟨t,ht⟩:∃t,c 78=t:=⟨_,rfl⟩
 rw [ht]at t0 h78
 rw [hv]at v0
 obtain⟨k,hk⟩:∃k,K.check c t=k:=⟨_,rfl⟩
 have HL:=hid (fun W h=>zcd c W hc h)
 have HC:=hid (fun W h=>hk▸zau c t W (zw hc) h om om)
 have HT:=hid (fun W (hb:Below w.heap.size w W)=>zi hT hb)
 obtain⟨n,hn⟩:∃n,(G.list c).length=n:=⟨_,rfl⟩
 have HE:=hid (show G.stuck c=if(G.list c).isEmpty=false then(0,0)else if v=4 then(1+t,8)else if k=true then(2-t,1)else(3,2) by unfold G.stuck;rw [hv,ht,hk])
 have HN:=hid hn
 have u1:IntKind.u8.wrap (1+t)=1+t:=by rw [IntKind.wrap_u8];omega
 have u2:IntKind.u8.wrap (2-t)=2-t:=by rw [IntKind.wrap_u8];omega
 have HK:=hid (fun W (h:PosAt W w.heap.size c)=>(show W.cell? ⟨w.heap.size,0,none⟩=some (.int .u8 v)∧W.cell? ⟨w.heap.size,78,none⟩=some (.int .u8 t) by
  have k1:=h.cellK 0 dc .u8 rfl
  have k2:=h.cellK 78 dc .u8 rfl
  rw [hv]at k1
  rw [ht]at k2
  exact⟨k1,k2⟩))
 clear hc hT hv ht hk hn t0 v0 h78
 by_cases hz:n=0
 ·subst hz
  have HI:=hid (show(G.list c).isEmpty=true by rw [List.isEmpty_iff];exact List.eq_nil_of_length_eq_zero HN)
  by_cases h4:v=4
  ·subst h4
   have HG:=hid (show G.stuck c=(1+t,8) by rw [HE.out,HI.out,if_neg sp,if_pos rfl])
   obtain⟨k0,k78⟩:=HK _ hp
   clear HE
   go_enter func113,ntmps113
   go_wp2_with (first
    |((with_reducible refine ze rfl _ rfl ?_);refine⟨_,_,rfl,hp,?_⟩)
    |(go_at_call 13;refine(HL _ (HT _ hb)).mono ?_;rintro e w2 ⟨v2,rfl,hr2,hb2⟩;obtain⟨ao2,cap2,rfl,_⟩:=hr2;rw [HN.out];replace hp:=hp.below hb2;replace hr:=hr.below hb2;replace hb:=za hb hb2;clear hb2;clear k0 k78;obtain⟨k0,k78⟩:=HK _ hp)
    |((with_reducible refine zb rfl 49 _ _ rfl ?_);refine⟨w.heap.size+1,49,Lg.res _ _,rfl,rfl,⟨_,hr.heap,rfl⟩,Lg.size_res,Lg.res_one _ _,?_⟩;intro W9 hP9 hr9))
   rw [HG.out]
   exact bodyPost_ret (results_cell_row results113 _ _ (w.heap.size+1) 49 _ (0,0) _ rfl hr9.heap underlying49 rfl Lg.size_res) rfl ⟨rfl,hP9.below hb om⟩
  ·have h4':(v==4)=false:=by rw [beq_eq_false_iff_ne];exact h4
   have HG:=hid (show G.stuck c=if k=true then(2-t,1)else(3,2) by rw [HE.out,HI.out,if_neg sp,if_neg h4])
   obtain⟨k0,k78⟩:=HK _ hp
   clear HE h4
   cases k
   all_goals
    go_enter func113,ntmps113
    go_wp2_with (first
     |((with_reducible refine ze rfl _ rfl ?_);refine⟨_,_,rfl,hp,?_⟩)
     |(go_at_call 13;refine(HL _ (HT _ hb)).mono ?_;rintro e w2 ⟨v2,rfl,hr2,hb2⟩;obtain⟨ao2,cap2,rfl,_⟩:=hr2;rw [HN.out];replace hp:=hp.below hb2;replace hr:=hr.below hb2;replace hb:=za hb hb2;clear hb2;clear k0 k78;obtain⟨k0,k78⟩:=HK _ hp)
     |(go_at_call 62;refine(HC _ (HT _ hb)).mono ?_;rintro e w3 ⟨rfl,hb2⟩;replace hp:=hp.below hb2;replace hr:=hr.below hb2;replace hb:=za hb hb2;clear hb2;clear k0 k78;obtain⟨k0,k78⟩:=HK _ hp)
     |(go_at_call 190;refine(zci _ _).mono ?_;rintro e w4 ⟨rfl,hb2⟩;replace hr:=hr.below hb2;replace hb:=za hb hb2;clear hb2)
     |((with_reducible refine zb rfl 49 _ _ rfl ?_);refine⟨w.heap.size+1,49,Lg.res _ _,rfl,rfl,⟨_,hr.heap,rfl⟩,Lg.size_res,Lg.res_one _ _,?_⟩;intro W9 hP9 hr9))
    rw [HG.out]
    exact bodyPost_ret (results_cell_row results113 _ _ (w.heap.size+1) 49 _ (0,0) _ rfl hr9.heap underlying49 rfl Lg.size_res) rfl ⟨rfl,hP9.below hb om⟩
 ·have hz':(0:Int)<(n:Int):=by omega
  have HG:=hid (show G.stuck c=(0,0) by rw [HE.out,if_pos];cases h:G.list c with|nil=>(have:=HN.out;rw [h]at this;exact absurd this.symm hz)|cons a l=>rfl)
  obtain⟨k0,k78⟩:=HK _ hp
  clear HE hz
  go_enter func113,ntmps113
  go_wp2_with (first
   |((with_reducible refine ze rfl _ rfl ?_);refine⟨_,_,rfl,hp,?_⟩)
   |(go_at_call 13;refine(HL _ (HT _ hb)).mono ?_;rintro e w2 ⟨v2,rfl,hr2,hb2⟩;obtain⟨ao2,cap2,rfl,_⟩:=hr2;rw [HN.out];replace hp:=hp.below hb2;replace hr:=hr.below hb2;replace hb:=za hb hb2;clear hb2;clear k0 k78;obtain⟨k0,k78⟩:=HK _ hp)
   |((with_reducible refine zb rfl 49 _ _ rfl ?_);refine⟨w.heap.size+1,49,Lg.res _ _,rfl,rfl,⟨_,hr.heap,rfl⟩,Lg.size_res,Lg.res_one _ _,?_⟩;intro W9 hP9 hr9))
  rw [HG.out]
  exact bodyPost_ret (results_cell_row results113 _ _ (w.heap.size+1) 49 _ (0,0) _ rfl hr9.heap underlying49 rfl Lg.size_res) rfl ⟨rfl,hP9.below hb om⟩
def Oc.qC:Array Value:= #[Lg.fv 43,Lg.fv 113,Lg.fv 114,Lg.fv 115]
theorem Oc.size_q:(prog.info? 103).map (·.size)=some 4:=by kernel_rfl
theorem Oc.size_q1:(prog.info? 102).map (·.size)=some 1:=by kernel_rfl
theorem Oc.q_one:Oc.qC.all (·.oneCell')=true:=by decide+kernel
theorem zcV(w:World):cB 48 #[] w (.agg Oc.qC):=by
 go_enter func48,ntmps48
 go_wp2_with ((with_reducible refine zb rfl 103 _ _ rfl ?_);refine⟨w.heap.size,103,Oc.qC,rfl,rfl,⟨_,heap_alloc_new _ _,rfl⟩,Oc.size_q,Oc.q_one,?_⟩;intro W9 hP9 hr9)
 exact bodyPost_ret (v:= .agg Oc.qC) (results_cell_row results48 _ _ w.heap.size 103 _ (0,0) _ rfl hr9.heap underlying103 rfl Oc.size_q) rfl ⟨rfl,hP9.below bA (Nat.le_refl _)⟩
theorem Oc.ix0(w:World):(Instr.index 103 (.agg Oc.qC) (.int .i64 0)).run prog w= .ok (.agg #[.func (.func 43) #[] #[]]) w:=by kernel_rfl
theorem Oc.ix1(w:World):(Instr.index 103 (.agg Oc.qC) (.int .i64 1)).run prog w= .ok (.agg #[.func (.func 113) #[] #[]]) w:=by kernel_rfl
theorem Oc.ix2(w:World):(Instr.index 103 (.agg Oc.qC) (.int .i64 2)).run prog w= .ok (.agg #[.func (.func 114) #[] #[]]) w:=by kernel_rfl
theorem Oc.ix3(w:World):(Instr.index 103 (.agg Oc.qC) (.int .i64 3)).run prog w= .ok (.agg #[.func (.func 115) #[] #[]]) w:=by kernel_rfl
theorem zhO(c:Nat→Int)(w:World)(hc:PosOk c)(hT:Tb w)(h9:c 0<9)(h78:c 78≤1):cB 16 #[.agg (posC c)] w (.agg (Lg.resP (G.outcome c))):=by
 have hp:=(PosAt.new w c).alloc (.cells #[.int .u8 0,.int .u8 0] 49)
 have hr:=RowAt.new (w.alloc (.cells (posC c) 31)) #[.int .u8 0,.int .u8 0] 49
 have hb:Below w.heap.size w ((w.alloc (.cells (posC c) 31)).alloc (.cells #[.int .u8 0,.int .u8 0] 49)):=bA.alloc sp _
 rw [World.size_alloc]at hr
 have HT:=hid (fun W (hb:Below w.heap.size w W)=>zi hT hb)
 obtain⟨s0,y0,e0⟩:∃s y,G.won c=(s,y):=⟨_,_,rfl⟩
 have HQ0:Hid (∀W,Tb W→cB 43 #[.agg (posC c)] W (.agg #[.int .u8 s0,.int .u8 y0])):=hid (fun W h=>by have:=zeQ c W hc h;rw [e0]at this;exact this)
 obtain⟨s1,y1,e1⟩:∃s y,G.stuck c=(s,y):=⟨_,_,rfl⟩
 have HQ1:Hid (∀W,Tb W→cB 113 #[.agg (posC c)] W (.agg #[.int .u8 s1,.int .u8 y1])):=hid (fun W h=>by have:=ze3 c W hc h h78;rw [e1]at this;exact this)
 obtain⟨s2,y2,e2⟩:∃s y,Oc.littleR (G.material c)=(s,y):=⟨_,_,rfl⟩
 have HQ2:Hid (∀W,Tb W→cB 114 #[.agg (posC c)] W (.agg #[.int .u8 s2,.int .u8 y2])):=hid (fun W _=>by have:=zeo c W hc;rw [e2]at this;exact this)
 obtain⟨s3,y3,e3⟩:∃s y,Oc.lateR (decide (150≤c 86))=(s,y):=⟨_,_,rfl⟩
 have HQ3:Hid (∀W,Tb W→cB 115 #[.agg (posC c)] W (.agg #[.int .u8 s3,.int .u8 y3])):=hid (fun W _=>by have:=zgv c W;rw [e3]at this;exact this)
 have HE:=hid (show G.outcome c=if s0≠0 then(s0,y0)else if s1≠0 then(s1,y1)else if s2≠0 then(s2,y2)else(s3,y3) by
  have hin:(if G.material c=true then((3:Int),(3:Int))else if 150≤c 86 then(3,4)else(0,0))=if s2≠0 then(s2,y2)else(s3,y3):=by
   cases hm:G.material c
   ·rw [hm]at e2
    cases e2
    rw [←e3]
    unfold Oc.lateR
    by_cases hl:150≤c 86<;>simp [hl]
   ·rw [hm]at e2
    cases e2
    simp
  unfold G.outcome
  rw [if_neg (fun k=>k ⟨h9,h78⟩),e0,e1,hin])
 have H3:=hid (show s3=0→y3=0 by
  intro h
  unfold Oc.lateR at e3
  split at e3
  ·cases e3;cases h
  ·cases e3;rfl)
 have HK:=hid (fun W (h:PosAt W w.heap.size c)=>And.intro (h.cellK 0 dc .u8 rfl) (h.cellK 78 dc .u8 rfl))
 obtain⟨k0,k78⟩:=HK _ hp
 obtain⟨v,hv⟩:∃v,c 0=v:=⟨_,rfl⟩
 obtain⟨t,ht⟩:∃t,c 78=t:=⟨_,rfl⟩
 rw [hv]at k0 h9
 rw [ht]at k78 h78
 obtain⟨X,hX⟩:∃X,G.outcome c=X:=⟨_,rfl⟩
 rw [hX]at HE⊢
 clear hc hT e0 e1 e2 e3 hX hv ht HK
 go_enter func16,ntmps16
 go_upto_region 3 with fail
 obtain⟨W1,hW1⟩:∃W,((w.alloc (.cells (posC c) 31)).alloc (.cells #[.int .u8 0,.int .u8 0] 49))=W:=⟨_,rfl⟩
 rw [hW1]at hp hr hb
 try rw [hW1]
 clear k0 k78 h9 h78 hW1
 go_wp2_with (go_at_call 48;refine(zcV _).mono ?_;rintro e w2 ⟨rfl,hb2⟩;replace hp:=hp.below hb2;replace hr:=hr.below hb2;replace hb:=za hb hb2;clear hb2)
 have HB0:=hid (And.intro hp (And.intro hr hb))
 clear hp hr hb
 go_loopw [4,5,16] (fun _ _ i wr=>∃k:Nat,k≤4∧i= .int .i64 (k:Int)∧Hid ((0<k→s0=0)∧(1<k→s1=0)∧(2<k→s2=0)∧(3<k→s3=0))∧Hid (PosAt wr w.heap.size c∧RowAt wr (w.heap.size+1) 49 #[.int .u8 0,.int .u8 0]∧Below w.heap.size w wr)) (fun _ _ i _=>4-(intOf i).toNat)
 case atStart=>exact⟨0,by omega,rfl,hid ⟨fun h=>by omega,fun h=>by omega,fun h=>by omega,fun h=>by omega⟩,HB0⟩
 case round=>
  obtain⟨k,hk,rfl,HS,HB⟩:=hrel
  clear HB0
  obtain⟨hp,hr,hb⟩:=HB.out
  have hlt:=hr.lt
  clear HB
  rcases(show k=0∨k=1∨k=2∨k=3∨k=4 by omega)with rfl|rfl|rfl|rfl|rfl
  ·have hix:=Oc.ix0
   by_cases hs:s0=0
   ·have HS':=hid (show(s0=0)from hs)
    have hs':(s0 !=0)=false:=by rw [hs];rfl
    clear hs
    go_wp2_with (first
    |((with_reducible refine ze rfl _ rfl ?_);refine⟨_,_,rfl,hp,?_⟩)
    |((with_reducible refine zb rfl 102 _ _ rfl ?_);refine⟨wr.heap.size,102,#[.func (.func 43) #[] #[]],rfl,rfl,⟨_,heap_alloc_new _ _,rfl⟩,Oc.size_q1,(by decide+kernel),?_⟩;intro W5 hP5 hr5;have hb5:Below wr.heap.size wr W5:=hP5.below bA (Nat.le_refl _);replace hp:=hp.below hb5;replace hr:=hr.below hb5;replace hb:=za hb hb5;have c5:=hr5.cell 0;simp only [List.getElem?_toArray,List.getElem?_cons_zero]at c5;clear hP5 hb5 hr5)
    |(go_at_call 43;refine(HQ0 _ (HT _ hb)).mono ?_;rintro e w6 ⟨rfl,hb2⟩;replace hp:=hp.below hb2;replace hr:=hr.below hb2;replace hb:=za hb hb2;clear hb2 c5)
    |((with_reducible refine zb rfl 49 _ _ rfl ?_);refine⟨w6.heap.size,49,#[.int .u8 s0,.int .u8 y0],rfl,rfl,⟨_,heap_alloc_new _ _,rfl⟩,Lg.size_res,Lg.res_one _ _,?_⟩;intro W7 hP7 hr7;have hb7:Below w6.heap.size w6 W7:=hP7.below bA (Nat.le_refl _);replace hp:=hp.below hb7;replace hr:=hr.below hb7;replace hb:=za hb hb7;have c7:=hr7.cell 0;simp only [List.getElem?_toArray,List.getElem?_cons_zero]at c7;clear hP7 hb7))
    exact⟨⟨1,by omega,rfl,hid (by have h:=HS'.out;refine⟨fun _=>h,fun h=>absurd h dc,fun h=>absurd h dc,fun h=>absurd h dc⟩),hid ⟨hp,hr,hb⟩⟩,by simp [intOf]⟩
   ·have hs':(s0 !=0)=true:=by rw [bne_iff_ne];exact hs
    have HG:=hid (HE.trans (if_pos hs))
    clear hs
    go_wp2_with (first
    |((with_reducible refine ze rfl _ rfl ?_);refine⟨_,_,rfl,hp,?_⟩)
    |((with_reducible refine zb rfl 102 _ _ rfl ?_);refine⟨wr.heap.size,102,#[.func (.func 43) #[] #[]],rfl,rfl,⟨_,heap_alloc_new _ _,rfl⟩,Oc.size_q1,(by decide+kernel),?_⟩;intro W5 hP5 hr5;have hb5:Below wr.heap.size wr W5:=hP5.below bA (Nat.le_refl _);replace hp:=hp.below hb5;replace hr:=hr.below hb5;replace hb:=za hb hb5;have c5:=hr5.cell 0;simp only [List.getElem?_toArray,List.getElem?_cons_zero]at c5;clear hP5 hb5 hr5)
    |(go_at_call 43;refine(HQ0 _ (HT _ hb)).mono ?_;rintro e w6 ⟨rfl,hb2⟩;replace hp:=hp.below hb2;replace hr:=hr.below hb2;replace hb:=za hb hb2;clear hb2 c5)
    |((with_reducible refine zb rfl 49 _ _ rfl ?_);refine⟨w6.heap.size,49,#[.int .u8 s0,.int .u8 y0],rfl,rfl,⟨_,heap_alloc_new _ _,rfl⟩,Lg.size_res,Lg.res_one _ _,?_⟩;intro W7 hP7 hr7;have hb7:Below w6.heap.size w6 W7:=hP7.below bA (Nat.le_refl _);replace hp:=hp.below hb7;replace hr:=hr.below hb7;replace hb:=za hb hb7;have c7:=hr7.cell 0;simp only [List.getElem?_toArray,List.getElem?_cons_zero]at c7;clear hP7 hb7)
    |((with_reducible refine zj rfl 49 _ rfl underlying49 rfl ?_);refine⟨w6.heap.size,49,#[.int .u8 s0,.int .u8 y0],rfl,hr7,Lg.size_res,?_⟩)
    |((with_reducible refine zb rfl 49 _ _ rfl ?_);refine⟨w.heap.size+1,49,Lg.res s0 y0,rfl,rfl,⟨_,hr.heap,rfl⟩,Lg.size_res,Lg.res_one _ _,?_⟩;intro W9 hP9 hr9))
    rw [HG.out]
    exact bodyPost_ret (results_cell_row results16 _ _ (w.heap.size+1) 49 _ (0,0) _ rfl hr9.heap underlying49 rfl Lg.size_res) rfl ⟨rfl,hP9.below hb om⟩
  ·have hix:=Oc.ix1
   have z0:s0=0:=HS.1 om
   by_cases hs:s1=0
   ·have HS':=hid (show(s0=0∧s1=0)from⟨z0,hs⟩)
    have hs':(s1 !=0)=false:=by rw [hs];rfl
    clear hs z0
    go_wp2_with (first
    |((with_reducible refine ze rfl _ rfl ?_);refine⟨_,_,rfl,hp,?_⟩)
    |((with_reducible refine zb rfl 102 _ _ rfl ?_);refine⟨wr.heap.size,102,#[.func (.func 113) #[] #[]],rfl,rfl,⟨_,heap_alloc_new _ _,rfl⟩,Oc.size_q1,(by decide+kernel),?_⟩;intro W5 hP5 hr5;have hb5:Below wr.heap.size wr W5:=hP5.below bA (Nat.le_refl _);replace hp:=hp.below hb5;replace hr:=hr.below hb5;replace hb:=za hb hb5;have c5:=hr5.cell 0;simp only [List.getElem?_toArray,List.getElem?_cons_zero]at c5;clear hP5 hb5 hr5)
    |(go_at_call 113;refine(HQ1 _ (HT _ hb)).mono ?_;rintro e w6 ⟨rfl,hb2⟩;replace hp:=hp.below hb2;replace hr:=hr.below hb2;replace hb:=za hb hb2;clear hb2 c5)
    |((with_reducible refine zb rfl 49 _ _ rfl ?_);refine⟨w6.heap.size,49,#[.int .u8 s1,.int .u8 y1],rfl,rfl,⟨_,heap_alloc_new _ _,rfl⟩,Lg.size_res,Lg.res_one _ _,?_⟩;intro W7 hP7 hr7;have hb7:Below w6.heap.size w6 W7:=hP7.below bA (Nat.le_refl _);replace hp:=hp.below hb7;replace hr:=hr.below hb7;replace hb:=za hb hb7;have c7:=hr7.cell 0;simp only [List.getElem?_toArray,List.getElem?_cons_zero]at c7;clear hP7 hb7))
    exact⟨⟨2,by omega,rfl,hid (by have h:=HS'.out;refine⟨fun _=>h.1,fun _=>h.2,fun h=>absurd h dc,fun h=>absurd h dc⟩),hid ⟨hp,hr,hb⟩⟩,by simp [intOf]⟩
   ·have hs':(s1 !=0)=true:=by rw [bne_iff_ne];exact hs
    have HG:=hid (HE.trans ((if_neg (fun h=>h z0)).trans (if_pos hs)))
    clear hs z0
    go_wp2_with (first
    |((with_reducible refine ze rfl _ rfl ?_);refine⟨_,_,rfl,hp,?_⟩)
    |((with_reducible refine zb rfl 102 _ _ rfl ?_);refine⟨wr.heap.size,102,#[.func (.func 113) #[] #[]],rfl,rfl,⟨_,heap_alloc_new _ _,rfl⟩,Oc.size_q1,(by decide+kernel),?_⟩;intro W5 hP5 hr5;have hb5:Below wr.heap.size wr W5:=hP5.below bA (Nat.le_refl _);replace hp:=hp.below hb5;replace hr:=hr.below hb5;replace hb:=za hb hb5;have c5:=hr5.cell 0;simp only [List.getElem?_toArray,List.getElem?_cons_zero]at c5;clear hP5 hb5 hr5)
    |(go_at_call 113;refine(HQ1 _ (HT _ hb)).mono ?_;rintro e w6 ⟨rfl,hb2⟩;replace hp:=hp.below hb2;replace hr:=hr.below hb2;replace hb:=za hb hb2;clear hb2 c5)
    |((with_reducible refine zb rfl 49 _ _ rfl ?_);refine⟨w6.heap.size,49,#[.int .u8 s1,.int .u8 y1],rfl,rfl,⟨_,heap_alloc_new _ _,rfl⟩,Lg.size_res,Lg.res_one _ _,?_⟩;intro W7 hP7 hr7;have hb7:Below w6.heap.size w6 W7:=hP7.below bA (Nat.le_refl _);replace hp:=hp.below hb7;replace hr:=hr.below hb7;replace hb:=za hb hb7;have c7:=hr7.cell 0;simp only [List.getElem?_toArray,List.getElem?_cons_zero]at c7;clear hP7 hb7)
    |((with_reducible refine zj rfl 49 _ rfl underlying49 rfl ?_);refine⟨w6.heap.size,49,#[.int .u8 s1,.int .u8 y1],rfl,hr7,Lg.size_res,?_⟩)
    |((with_reducible refine zb rfl 49 _ _ rfl ?_);refine⟨w.heap.size+1,49,Lg.res s1 y1,rfl,rfl,⟨_,hr.heap,rfl⟩,Lg.size_res,Lg.res_one _ _,?_⟩;intro W9 hP9 hr9))
    rw [HG.out]
    exact bodyPost_ret (results_cell_row results16 _ _ (w.heap.size+1) 49 _ (0,0) _ rfl hr9.heap underlying49 rfl Lg.size_res) rfl ⟨rfl,hP9.below hb om⟩
  ·have hix:=Oc.ix2
   have z0:s0=0:=HS.1 om
   have z1:s1=0:=HS.2.1 om
   by_cases hs:s2=0
   ·have HS':=hid (show(s0=0∧s1=0∧s2=0)from⟨z0,z1,hs⟩)
    have hs':(s2 !=0)=false:=by rw [hs];rfl
    clear hs z0 z1
    go_wp2_with (first
    |((with_reducible refine ze rfl _ rfl ?_);refine⟨_,_,rfl,hp,?_⟩)
    |((with_reducible refine zb rfl 102 _ _ rfl ?_);refine⟨wr.heap.size,102,#[.func (.func 114) #[] #[]],rfl,rfl,⟨_,heap_alloc_new _ _,rfl⟩,Oc.size_q1,(by decide+kernel),?_⟩;intro W5 hP5 hr5;have hb5:Below wr.heap.size wr W5:=hP5.below bA (Nat.le_refl _);replace hp:=hp.below hb5;replace hr:=hr.below hb5;replace hb:=za hb hb5;have c5:=hr5.cell 0;simp only [List.getElem?_toArray,List.getElem?_cons_zero]at c5;clear hP5 hb5 hr5)
    |(go_at_call 114;refine(HQ2 _ (HT _ hb)).mono ?_;rintro e w6 ⟨rfl,hb2⟩;replace hp:=hp.below hb2;replace hr:=hr.below hb2;replace hb:=za hb hb2;clear hb2 c5)
    |((with_reducible refine zb rfl 49 _ _ rfl ?_);refine⟨w6.heap.size,49,#[.int .u8 s2,.int .u8 y2],rfl,rfl,⟨_,heap_alloc_new _ _,rfl⟩,Lg.size_res,Lg.res_one _ _,?_⟩;intro W7 hP7 hr7;have hb7:Below w6.heap.size w6 W7:=hP7.below bA (Nat.le_refl _);replace hp:=hp.below hb7;replace hr:=hr.below hb7;replace hb:=za hb hb7;have c7:=hr7.cell 0;simp only [List.getElem?_toArray,List.getElem?_cons_zero]at c7;clear hP7 hb7))
    exact⟨⟨3,by omega,rfl,hid (by have h:=HS'.out;refine⟨fun _=>h.1,fun _=>h.2.1,fun _=>h.2.2,fun h=>absurd h dc⟩),hid ⟨hp,hr,hb⟩⟩,by simp [intOf]⟩
   ·have hs':(s2 !=0)=true:=by rw [bne_iff_ne];exact hs
    have HG:=hid (HE.trans ((if_neg (fun h=>h z0)).trans ((if_neg (fun h=>h z1)).trans (if_pos hs))))
    clear hs z0 z1
    go_wp2_with (first
    |((with_reducible refine ze rfl _ rfl ?_);refine⟨_,_,rfl,hp,?_⟩)
    |((with_reducible refine zb rfl 102 _ _ rfl ?_);refine⟨wr.heap.size,102,#[.func (.func 114) #[] #[]],rfl,rfl,⟨_,heap_alloc_new _ _,rfl⟩,Oc.size_q1,(by decide+kernel),?_⟩;intro W5 hP5 hr5;have hb5:Below wr.heap.size wr W5:=hP5.below bA (Nat.le_refl _);replace hp:=hp.below hb5;replace hr:=hr.below hb5;replace hb:=za hb hb5;have c5:=hr5.cell 0;simp only [List.getElem?_toArray,List.getElem?_cons_zero]at c5;clear hP5 hb5 hr5)
    |(go_at_call 114;refine(HQ2 _ (HT _ hb)).mono ?_;rintro e w6 ⟨rfl,hb2⟩;replace hp:=hp.below hb2;replace hr:=hr.below hb2;replace hb:=za hb hb2;clear hb2 c5)
    |((with_reducible refine zb rfl 49 _ _ rfl ?_);refine⟨w6.heap.size,49,#[.int .u8 s2,.int .u8 y2],rfl,rfl,⟨_,heap_alloc_new _ _,rfl⟩,Lg.size_res,Lg.res_one _ _,?_⟩;intro W7 hP7 hr7;have hb7:Below w6.heap.size w6 W7:=hP7.below bA (Nat.le_refl _);replace hp:=hp.below hb7;replace hr:=hr.below hb7;replace hb:=za hb hb7;have c7:=hr7.cell 0;simp only [List.getElem?_toArray,List.getElem?_cons_zero]at c7;clear hP7 hb7)
    |((with_reducible refine zj rfl 49 _ rfl underlying49 rfl ?_);refine⟨w6.heap.size,49,#[.int .u8 s2,.int .u8 y2],rfl,hr7,Lg.size_res,?_⟩)
    |((with_reducible refine zb rfl 49 _ _ rfl ?_);refine⟨w.heap.size+1,49,Lg.res s2 y2,rfl,rfl,⟨_,hr.heap,rfl⟩,Lg.size_res,Lg.res_one _ _,?_⟩;intro W9 hP9 hr9))
    rw [HG.out]
    exact bodyPost_ret (results_cell_row results16 _ _ (w.heap.size+1) 49 _ (0,0) _ rfl hr9.heap underlying49 rfl Lg.size_res) rfl ⟨rfl,hP9.below hb om⟩
  ·have hix:=Oc.ix3
   have z0:s0=0:=HS.1 om
   have z1:s1=0:=HS.2.1 om
   have z2:s2=0:=HS.2.2.1 om
   by_cases hs:s3=0
   ·have HS':=hid (show(s0=0∧s1=0∧s2=0∧s3=0)from⟨z0,z1,z2,hs⟩)
    have hs':(s3 !=0)=false:=by rw [hs];rfl
    clear hs z0 z1 z2
    go_wp2_with (first
    |((with_reducible refine ze rfl _ rfl ?_);refine⟨_,_,rfl,hp,?_⟩)
    |((with_reducible refine zb rfl 102 _ _ rfl ?_);refine⟨wr.heap.size,102,#[.func (.func 115) #[] #[]],rfl,rfl,⟨_,heap_alloc_new _ _,rfl⟩,Oc.size_q1,(by decide+kernel),?_⟩;intro W5 hP5 hr5;have hb5:Below wr.heap.size wr W5:=hP5.below bA (Nat.le_refl _);replace hp:=hp.below hb5;replace hr:=hr.below hb5;replace hb:=za hb hb5;have c5:=hr5.cell 0;simp only [List.getElem?_toArray,List.getElem?_cons_zero]at c5;clear hP5 hb5 hr5)
    |(go_at_call 115;refine(HQ3 _ (HT _ hb)).mono ?_;rintro e w6 ⟨rfl,hb2⟩;replace hp:=hp.below hb2;replace hr:=hr.below hb2;replace hb:=za hb hb2;clear hb2 c5)
    |((with_reducible refine zb rfl 49 _ _ rfl ?_);refine⟨w6.heap.size,49,#[.int .u8 s3,.int .u8 y3],rfl,rfl,⟨_,heap_alloc_new _ _,rfl⟩,Lg.size_res,Lg.res_one _ _,?_⟩;intro W7 hP7 hr7;have hb7:Below w6.heap.size w6 W7:=hP7.below bA (Nat.le_refl _);replace hp:=hp.below hb7;replace hr:=hr.below hb7;replace hb:=za hb hb7;have c7:=hr7.cell 0;simp only [List.getElem?_toArray,List.getElem?_cons_zero]at c7;clear hP7 hb7))
    exact⟨⟨4,by omega,rfl,hid (by have h:=HS'.out;refine⟨fun _=>h.1,fun _=>h.2.1,fun _=>h.2.2.1,fun _=>h.2.2.2⟩),hid ⟨hp,hr,hb⟩⟩,by simp [intOf]⟩
   ·have hs':(s3 !=0)=true:=by rw [bne_iff_ne];exact hs
    have HG:=hid (HE.trans ((if_neg (fun h=>h z0)).trans ((if_neg (fun h=>h z1)).trans (if_neg (fun h=>h z2)))))
    clear hs z0 z1 z2
    go_wp2_with (first
    |((with_reducible refine ze rfl _ rfl ?_);refine⟨_,_,rfl,hp,?_⟩)
    |((with_reducible refine zb rfl 102 _ _ rfl ?_);refine⟨wr.heap.size,102,#[.func (.func 115) #[] #[]],rfl,rfl,⟨_,heap_alloc_new _ _,rfl⟩,Oc.size_q1,(by decide+kernel),?_⟩;intro W5 hP5 hr5;have hb5:Below wr.heap.size wr W5:=hP5.below bA (Nat.le_refl _);replace hp:=hp.below hb5;replace hr:=hr.below hb5;replace hb:=za hb hb5;have c5:=hr5.cell 0;simp only [List.getElem?_toArray,List.getElem?_cons_zero]at c5;clear hP5 hb5 hr5)
    |(go_at_call 115;refine(HQ3 _ (HT _ hb)).mono ?_;rintro e w6 ⟨rfl,hb2⟩;replace hp:=hp.below hb2;replace hr:=hr.below hb2;replace hb:=za hb hb2;clear hb2 c5)
    |((with_reducible refine zb rfl 49 _ _ rfl ?_);refine⟨w6.heap.size,49,#[.int .u8 s3,.int .u8 y3],rfl,rfl,⟨_,heap_alloc_new _ _,rfl⟩,Lg.size_res,Lg.res_one _ _,?_⟩;intro W7 hP7 hr7;have hb7:Below w6.heap.size w6 W7:=hP7.below bA (Nat.le_refl _);replace hp:=hp.below hb7;replace hr:=hr.below hb7;replace hb:=za hb hb7;have c7:=hr7.cell 0;simp only [List.getElem?_toArray,List.getElem?_cons_zero]at c7;clear hP7 hb7)
    |((with_reducible refine zj rfl 49 _ rfl underlying49 rfl ?_);refine⟨w6.heap.size,49,#[.int .u8 s3,.int .u8 y3],rfl,hr7,Lg.size_res,?_⟩)
    |((with_reducible refine zb rfl 49 _ _ rfl ?_);refine⟨w.heap.size+1,49,Lg.res s3 y3,rfl,rfl,⟨_,hr.heap,rfl⟩,Lg.size_res,Lg.res_one _ _,?_⟩;intro W9 hP9 hr9))
    rw [HG.out]
    exact bodyPost_ret (results_cell_row results16 _ _ (w.heap.size+1) 49 _ (0,0) _ rfl hr9.heap underlying49 rfl Lg.size_res) rfl ⟨rfl,hP9.below hb om⟩
  ·have z0:=HS.1 om
   have z1:=HS.2.1 om
   have z2:=HS.2.2.1 om
   have z3:=HS.2.2.2 om
   have HG:=hid (show X=(0,0) by rw [HE.out,if_neg (fun h=>h z0),if_neg (fun h=>h z1),if_neg (fun h=>h z2),z3,H3.out z3])
   clear z0 z1 z2 z3
   go_wp2_with ((with_reducible refine zb rfl 49 _ _ rfl ?_);refine⟨w.heap.size+1,49,Lg.res _ _,rfl,rfl,⟨_,hr.heap,rfl⟩,Lg.size_res,Lg.res_one _ _,?_⟩;intro W9 hP9 hr9)
   rw [HG.out]
   exact bodyPost_ret (results_cell_row results16 _ _ (w.heap.size+1) 49 _ (0,0) _ rfl hr9.heap underlying49 rfl Lg.size_res) rfl ⟨rfl,hP9.below hb om⟩
theorem oof_of(c:Nat→Int)(w:World)(hc:PosOk c)(hT:Tb w):cB 16 #[.agg (posC c)] w (.agg (Lg.resP (G.outcome c))):=by
 by_cases h:c 0<9∧c 78≤1
 ·exact zhO c w hc hT h.1 h.2
 ·have hW:G.outcome c=(0,0):=by unfold G.outcome;rw [if_pos h]
  rw [hW]
  have hp:=(PosAt.new w c).alloc (.cells #[.int .u8 0,.int .u8 0] 49)
  have hr:=RowAt.new (w.alloc (.cells (posC c) 31)) #[.int .u8 0,.int .u8 0] 49
  have hb:Below w.heap.size w ((w.alloc (.cells (posC c) 31)).alloc (.cells #[.int .u8 0,.int .u8 0] 49)):=bA.alloc sp _
  rw [World.size_alloc]at hr
  have k0:=hp.cellK 0 dc .u8 rfl
  have k78:=hp.cellK 78 dc .u8 rfl
  obtain⟨x,hx⟩:∃x,c 0=x:=⟨_,rfl⟩
  obtain⟨t,ht⟩:∃t,c 78=t:=⟨_,rfl⟩
  rw [hx]at h k0
  rw [ht]at h k78
  clear hW hc hT ht hx
  by_cases h9:9≤x
  ·clear h
   go_enter func16,ntmps16
   go_wp2_with ((with_reducible refine zb rfl 49 _ _ rfl ?_);refine⟨w.heap.size+1,49,Lg.res _ _,rfl,rfl,⟨_,hr.heap,rfl⟩,Lg.size_res,Lg.res_one _ _,?_⟩;intro W9 hP9 hr9)
   exact bodyPost_ret (results_cell_row results16 _ _ (w.heap.size+1) 49 _ (0,0) _ rfl hr9.heap underlying49 rfl Lg.size_res) rfl ⟨rfl,hP9.below hb om⟩
  ·have h1:decide (9≤x)=false:=decide_eq_false h9
   have h2:decide (1<t)=true:=decide_eq_true om
   clear h h9
   go_enter func16,ntmps16
   go_wp2_with ((with_reducible refine zb rfl 49 _ _ rfl ?_);refine⟨w.heap.size+1,49,Lg.res _ _,rfl,rfl,⟨_,hr.heap,rfl⟩,Lg.size_res,Lg.res_one _ _,?_⟩;intro W9 hP9 hr9)
   exact bodyPost_ret (results_cell_row results16 _ _ (w.heap.size+1) 49 _ (0,0) _ rfl hr9.heap underlying49 rfl Lg.size_res) rfl ⟨rfl,hP9.below hb om⟩
end Go.Proofs.YtbakeajgolhkgaaGreatDoor
