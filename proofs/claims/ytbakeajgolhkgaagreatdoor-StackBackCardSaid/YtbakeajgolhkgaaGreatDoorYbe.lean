import Derived.Test.YtbakeajgolhkgaaGreatDoorYbc
import Derived.Test.YtbakeajgolhkgaaGreatDoorYbd
set_option maxRecDepth 100000
set_option maxHeartbeats 8000000
open Go.Lib (hid)
namespace Go.Proofs.YtbakeajgolhkgaaGreatDoor
open Go.Proofs.Tryz
open Go.RowKit Go.Sort
theorem zdb(c:Nat→Int)(m:Mv)(w:World)(hc:PosOk c)(hT:Tb w)(hm:m∈A.all c):
  cB 17 #[.agg (posC c),.agg (M.cell m).toArray] w (.tuple #[.agg (posC (A.after c m (Z.taken c m))),.bool true]):=by
 obtain⟨F,G,p,d,ca,rfl,hf⟩:=A.fine_of c m hc hm
 exact zhR c F G p d ca w hc hT hm hf (fun b w0 w1 h hC=>zi7 hf h hC)
theorem A.after_ok(c:Nat→Int)(m:Mv)(hc:PosOk c)(hm:m∈A.all c):PosOk (A.after c m (Z.taken c m)):=by
 obtain⟨F,G,p,d,ca,rfl,hf⟩:=A.fine_of c m hc hm
 exact(hf.step_ok 7 dc).1
namespace G
def has(q:Nat→Int)(t:Int):Bool:=decide (0≤S.find q t 6)
def next(c:Nat→Int)(m:Mv):Nat→Int:=A.after c m (Z.taken c m)
def leaves(c q:Nat→Int):Bool:=
 (!V.royal (c 0) (c 78)||(has q (c 78)&&(!K.check q (c 78)||(c 0==3&& !has q (1-c 78)))))&&(c 0 !=8|| !K.check q (1-c 78))
def well(c:Nat→Int)(m:Mv):Bool:=leaves c (next c m)
def takes(c:Nat→Int)(m:Mv):Bool:=decide (0≤Z.taken c m)
def none(c:Nat→Int):Bool:=V.royal (c 0) (c 78)&& !has c (c 78)
def would(c:Nat→Int):List Mv:=
 if none c=true then []else if c 0=4∧((A.all c).filter (well c)).any (takes c)=true then((A.all c).filter (well c)).filter (takes c)else(A.all c).filter (well c)
def men(c:Nat→Int)(t:Int):Bool:=S.of c t 0 !=0#64
def onHill(c:Nat→Int)(t:Int):Bool:=has c t&&(S.find c t 6==27||S.find c t 6==28||S.find c t 6==35||S.find c t 6==36)
def goal(c:Nat→Int)(t:Int):Bool:=decide (56≤S.find c t 6)
def comes(c:Nat→Int)(m:Mv):Bool:=m.1==S.find c 1 6&&decide (56≤m.2.1)
def won(c:Nat→Int):Int×Int:=
 if¬(c 0<9∧c 78≤1)then(0,0)
 else if c 0=3 then(if has c (c 78)=true then(0,0)else(1+(1-c 78),6))
 else if c 0=5 then(if 3≤c (84+(1-c 78).toNat)then(1+(1-c 78),7)else if 3≤c (84+(c 78).toNat)then(1+c 78,7)else(0,0))
 else if c 0=6 then(if onHill c (1-c 78)=true then(1+(1-c 78),6)else if onHill c (c 78)=true then(1+c 78,6)else(0,0))
 else if c 0=7 then(if men c 0=true then(0,0)else(2,8))
 else if c 0=4 then(if men c (c 78)=false then(1+c 78,8)else if men c (1-c 78)=false then(1+(1-c 78),8)else(0,0))
 else if c 0=8 then
  (if goal c 0=true∧goal c 1=true then(3,6)else if goal c 1=true then(2,6)else if goal c 0=false then(0,0)
   else if c 78=0 then(1,6)else if(would c).any (comes c)=true then(0,0)else(1,6))
 else(0,0)
def list(c:Nat→Int):List Mv:=if(won c).1=0 then would c else []
theorem would_sub{c:Nat→Int}{m:Mv}(h:m∈would c):m∈A.all c:=by
 unfold would at h
 split at h
 ·cases h
 ·split at h
  ·exact(List.mem_filter.1 (List.mem_filter.1 h).1).1
  ·exact(List.mem_filter.1 h).1
theorem list_sub{c:Nat→Int}{m:Mv}(h:m∈list c):m∈A.all c:=by
 unfold list at h
 split at h
 ·exact would_sub h
 ·cases h
end G
theorem zb3(q:Nat→Int)(color:Int)(w:World)(hq:BdOk q)(hT:Tb w):
  cB 92 #[.agg (posC q),.int .u8 color] w (.bool (G.has q color)):=by
 have HQ:=hid hq
 have hp:=PosAt.new w q
 have hb0:Below w.heap.size w (w.alloc (.cells (posC q) 31)):=bA
 have HT:=hid (zi hT hb0)
 obtain⟨n,hn⟩:∃n,S.find q color 6=n:=⟨_,rfl⟩
 have HF:Hid (∀W,Tb W→cB 132 #[.agg (posC q),.int .u8 color,.int .u8 6] W (.int .i64 n)):=hid (fun W h=>hn▸zW q color 6 W HQ h)
 unfold G.has
 rw [hn]
 clear hn hT hq
 go_enter func92,ntmps92
 go_wp2_with (first
  |((with_reducible refine ze rfl _ rfl ?_);refine⟨_,_,rfl,asm,?_⟩)
  |(go_at_call 132;refine(HF _ HT).mono ?_;rintro e w1 ⟨rfl,hb1⟩))
 go_ret
 exact⟨rfl,za hb0 hb1⟩
theorem zgN(c:Nat→Int)(m:Mv)(w:World)(hc:PosOk c)(hT:Tb w)(hm:m∈A.all c):
  cB 98 #[.agg (posC c),.agg (M.cell m).toArray] w (.bool (G.well c m)):=by
 obtain⟨f,g,p,d,ca⟩:=m
 have h78:=(A.all_mem c _ hc hm).1
 have h780:=(zp hc (i:=78) dc rfl).1
 obtain⟨t,ht⟩:∃t:Nat,c 78=(t:Int):=⟨(c 78).toNat,by omega⟩
 have ht1:t≤1:=by omega
 obtain⟨v,hv⟩:∃v,c 0=v:=⟨_,rfl⟩
 have hv0:=(zp hc (i:=0) dc rfl).1
 obtain⟨q,hq⟩:∃q,G.next c (f,g,p,d,ca)=q:=⟨_,rfl⟩
 have hqok:PosOk q:=hq▸A.after_ok c _ hc hm
 have hqo:=zw hqok
 have hq0:=(zp hqok (i:=0) dc rfl).1
 have HM:Hid (∀W,Tb W→cB 17 #[.agg (posC c),.agg #[.int .i8 f,.int .i8 g,.int .u8 p,.int .u8 d,.bool ca]] W (.tuple #[.agg (posC q),.bool true])):=hid (fun W h=>hq▸zdb c _ W hc h hm)
 obtain⟨r,hr⟩:∃r,V.royal v (t:Int)=r:=⟨_,rfl⟩
 have HR:Hid (∀W,cB 91 #[.int .u8 v,.int .u8 (t:Int)] W (.bool r)):=hid (fun W=>zar v (t:Int) r W om om hr)
 obtain⟨h1,hh1⟩:∃b,G.has q (t:Int)=b:=⟨_,rfl⟩
 obtain⟨h2,hh2⟩:∃b,G.has q (1-(t:Int))=b:=⟨_,rfl⟩
 obtain⟨k1,hk1⟩:∃b,K.check q (t:Int)=b:=⟨_,rfl⟩
 obtain⟨k2,hk2⟩:∃b,K.check q (1-(t:Int))=b:=⟨_,rfl⟩
 have HH:Hid (∀W,Tb W→∀z b,z=(t:Int)∧b=h1∨z=1-(t:Int)∧b=h2→cB 92 #[.agg (posC q),.int .u8 z] W (.bool b)):=hid (fun W h z b hz=>by
  rcases hz with⟨rfl,rfl⟩|⟨rfl,rfl⟩
  ·exact hh1▸zb3 q _ W hqo h
  ·exact hh2▸zb3 q _ W hqo h)
 have HK:Hid (∀W,Tb W→∀z b,z=(t:Int)∧b=k1∨z=1-(t:Int)∧b=k2→cB 62 #[.agg (posC q),.int .u8 z] W (.bool b)):=hid (fun W h z b hz=>by
  rcases hz with⟨rfl,rfl⟩|⟨rfl,rfl⟩
  ·exact hk1▸zau q _ W hqo h hq0 om
  ·exact hk2▸zau q _ W hqo h hq0 om)
 have HE:Hid (G.well c (f,g,p,d,ca)=((!r||(h1&&(!k1||(v==3&& !h2))))&&(v !=8|| !k2))):=hid (by unfold G.well G.leaves;rw [hq,ht,hv,hr,hh1,hh2,hk1,hk2])
 have HT:=hid (fun W (hb:Below w.heap.size w W)=>zi hT hb)
 have HC:Hid (∀W,PosAt W w.heap.size c→W.cell? ⟨w.heap.size,0,none⟩=some (.int .u8 v)∧W.cell? ⟨w.heap.size,78,none⟩=some (.int .u8 (t:Int))):=hid (fun W hp=>by
  have h1:=hp.cell (i:=0) dc
  have h2:=hp.cell (i:=78) dc
  rw [hv,show pk 0= .u8 from rfl]at h1
  rw [ht,show pk 78= .u8 from rfl]at h2
  exact⟨h1,h2⟩)
 have hu:IntKind.u8.wrap (1-(t:Int))=1-(t:Int):=by rw [IntKind.wrap_u8];omega
 have hp:=(PosAt.new w c).alloc (.cells #[.int .i8 f,.int .i8 g,.int .u8 p,.int .u8 d,.bool ca] 47)
 have hm1:=RowAt.new (w.alloc (.cells (posC c) 31)) #[.int .i8 f,.int .i8 g,.int .u8 p,.int .u8 d,.bool ca] 47
 have hbr:Below w.heap.size w ((w.alloc (.cells (posC c) 31)).alloc (.cells #[.int .i8 f,.int .i8 g,.int .u8 p,.int .u8 d,.bool ca] 47)):=bA.alloc sp _
 rw [World.size_alloc]at hm1
 obtain⟨W,hW⟩:∃W,(w.alloc (.cells (posC c) 31)).alloc (.cells #[.int .i8 f,.int .i8 g,.int .u8 p,.int .u8 d,.bool ca] 47)=W:=⟨_,rfl⟩
 rw [hW]at hp hm1 hbr
 rw [HE.out]
 clear hqo hqok hc hT ht hv hm hq hh1 hh2 hk1 hk2 hr h78 h780 HE hq0 hv0
 unfold M.cell
 go_enter func98,ntmps98
 go_upto_region 2 with(first
  |((with_reducible refine ze rfl _ rfl ?_);refine⟨w.heap.size,c,rfl,asm,?_⟩)
  |((with_reducible refine zj rfl 47 _ rfl underlying47 rfl ?_);refine⟨w.heap.size+1,47,#[.int .i8 f,.int .i8 g,.int .u8 p,.int .u8 d,.bool ca],rfl,asm,size_Mv,?_⟩)
  |(go_at_call 17;refine(HM _ (HT _ hbr)).mono ?_;rintro e w6 ⟨rfl,hb6⟩;replace hp:=hp.below hb6;replace hbr:=za hbr hb6;have hl6:=hp.lt;clear hb6 hm1)
  |((with_reducible refine zn rfl _ _ rfl ?_);refine⟨w6.heap.size,q,rfl,rfl,⟨_,heap_alloc_new _ _,kr⟩,?_⟩;intro W7 hP7 hq7;replace hp:PosAt W7 w.heap.size c:=⟨(hP7.block _ om).trans (hp.alloc _).heap⟩;replace hbr:=hP7.below (hbr.alloc hbr.size _) hbr.size;clear hP7))
 obtain⟨bq,hbq⟩:∃bq,w6.heap.size=bq:=⟨_,rfl⟩
 rw [hbq]at hq7
 try rw [hbq]
 clear hW hbq hl6
 obtain⟨k0,k78⟩:=HC _ hp
 cases r
 case false=>
  by_cases h8:v=8
  ·subst h8
   cases k2
   all_goals
    go_wp2_with (first
     |((with_reducible refine ze rfl _ rfl ?_);refine⟨bq,q,rfl,hq7,?_⟩)
     |((with_reducible refine zh rfl _ rfl ?_);refine⟨bq,q,rfl,hq7,?_⟩)
     |(go_at_call 91;refine(HR _).mono ?_;rintro e w8 ⟨rfl,hb8⟩;replace hp:=hp.below hb8;replace hq7:=hq7.below hb8;replace hbr:=za hbr hb8;clear hb8 k0 k78;obtain⟨k0,k78⟩:=HC _ hp)
     |(go_at_call 92;refine(HH _ (HT _ hbr) _ _ (by first|exact .inl ⟨rfl,rfl⟩|exact .inr ⟨rfl,rfl⟩)).mono ?_;rintro e w9 ⟨rfl,hb9⟩;replace hp:=hp.below hb9;replace hq7:=hq7.below hb9;replace hbr:=za hbr hb9;clear hb9 k0 k78;obtain⟨k0,k78⟩:=HC _ hp)
     |(go_at_call 62;refine(HK _ (HT _ hbr) _ _ (by first|exact .inl ⟨rfl,rfl⟩|exact .inr ⟨rfl,rfl⟩)).mono ?_;rintro e w10 ⟨rfl,hb10⟩;replace hp:=hp.below hb10;replace hq7:=hq7.below hb10;replace hbr:=za hbr hb10;clear hb10 k0 k78;obtain⟨k0,k78⟩:=HC _ hp))
    go_ret
    exact⟨zy sp,hbr⟩
  ·have h8':(v !=8)=true:=by rw [bne_iff_ne];exact h8
   clear h8
   go_wp2_with (first
    |((with_reducible refine ze rfl _ rfl ?_);refine⟨bq,q,rfl,hq7,?_⟩)
    |((with_reducible refine zh rfl _ rfl ?_);refine⟨bq,q,rfl,hq7,?_⟩)
    |(go_at_call 91;refine(HR _).mono ?_;rintro e w8 ⟨rfl,hb8⟩;replace hp:=hp.below hb8;replace hq7:=hq7.below hb8;replace hbr:=za hbr hb8;clear hb8 k0 k78;obtain⟨k0,k78⟩:=HC _ hp)
    |(go_at_call 92;refine(HH _ (HT _ hbr) _ _ (by first|exact .inl ⟨rfl,rfl⟩|exact .inr ⟨rfl,rfl⟩)).mono ?_;rintro e w9 ⟨rfl,hb9⟩;replace hp:=hp.below hb9;replace hq7:=hq7.below hb9;replace hbr:=za hbr hb9;clear hb9 k0 k78;obtain⟨k0,k78⟩:=HC _ hp)
    |(go_at_call 62;refine(HK _ (HT _ hbr) _ _ (by first|exact .inl ⟨rfl,rfl⟩|exact .inr ⟨rfl,rfl⟩)).mono ?_;rintro e w10 ⟨rfl,hb10⟩;replace hp:=hp.below hb10;replace hq7:=hq7.below hb10;replace hbr:=za hbr hb10;clear hb10 k0 k78;obtain⟨k0,k78⟩:=HC _ hp))
   go_ret
   exact⟨zy (by simp [h8']),hbr⟩
 case true=>
  cases h1
  case false=>
   go_wp2_with (first
    |((with_reducible refine ze rfl _ rfl ?_);refine⟨bq,q,rfl,hq7,?_⟩)
    |((with_reducible refine zh rfl _ rfl ?_);refine⟨bq,q,rfl,hq7,?_⟩)
    |(go_at_call 91;refine(HR _).mono ?_;rintro e w8 ⟨rfl,hb8⟩;replace hp:=hp.below hb8;replace hq7:=hq7.below hb8;replace hbr:=za hbr hb8;clear hb8 k0 k78;obtain⟨k0,k78⟩:=HC _ hp)
    |(go_at_call 92;refine(HH _ (HT _ hbr) _ _ (by first|exact .inl ⟨rfl,rfl⟩|exact .inr ⟨rfl,rfl⟩)).mono ?_;rintro e w9 ⟨rfl,hb9⟩;replace hp:=hp.below hb9;replace hq7:=hq7.below hb9;replace hbr:=za hbr hb9;clear hb9 k0 k78;obtain⟨k0,k78⟩:=HC _ hp)
    |(go_at_call 62;refine(HK _ (HT _ hbr) _ _ (by first|exact .inl ⟨rfl,rfl⟩|exact .inr ⟨rfl,rfl⟩)).mono ?_;rintro e w10 ⟨rfl,hb10⟩;replace hp:=hp.below hb10;replace hq7:=hq7.below hb10;replace hbr:=za hbr hb10;clear hb10 k0 k78;obtain⟨k0,k78⟩:=HC _ hp))
   go_ret
   exact⟨zy sp,hbr⟩
  case true=>
   cases k1
   case false=>
    by_cases h8:v=8
    ·subst h8
     cases k2
     all_goals
      go_wp2_with (first
       |((with_reducible refine ze rfl _ rfl ?_);refine⟨bq,q,rfl,hq7,?_⟩)
       |((with_reducible refine zh rfl _ rfl ?_);refine⟨bq,q,rfl,hq7,?_⟩)
       |(go_at_call 91;refine(HR _).mono ?_;rintro e w8 ⟨rfl,hb8⟩;replace hp:=hp.below hb8;replace hq7:=hq7.below hb8;replace hbr:=za hbr hb8;clear hb8 k0 k78;obtain⟨k0,k78⟩:=HC _ hp)
       |(go_at_call 92;refine(HH _ (HT _ hbr) _ _ (by first|exact .inl ⟨rfl,rfl⟩|exact .inr ⟨rfl,rfl⟩)).mono ?_;rintro e w9 ⟨rfl,hb9⟩;replace hp:=hp.below hb9;replace hq7:=hq7.below hb9;replace hbr:=za hbr hb9;clear hb9 k0 k78;obtain⟨k0,k78⟩:=HC _ hp)
       |(go_at_call 62;refine(HK _ (HT _ hbr) _ _ (by first|exact .inl ⟨rfl,rfl⟩|exact .inr ⟨rfl,rfl⟩)).mono ?_;rintro e w10 ⟨rfl,hb10⟩;replace hp:=hp.below hb10;replace hq7:=hq7.below hb10;replace hbr:=za hbr hb10;clear hb10 k0 k78;obtain⟨k0,k78⟩:=HC _ hp))
      go_ret
      exact⟨zy sp,hbr⟩
    ·have h8':(v !=8)=true:=by rw [bne_iff_ne];exact h8
     clear h8
     go_wp2_with (first
      |((with_reducible refine ze rfl _ rfl ?_);refine⟨bq,q,rfl,hq7,?_⟩)
      |((with_reducible refine zh rfl _ rfl ?_);refine⟨bq,q,rfl,hq7,?_⟩)
      |(go_at_call 91;refine(HR _).mono ?_;rintro e w8 ⟨rfl,hb8⟩;replace hp:=hp.below hb8;replace hq7:=hq7.below hb8;replace hbr:=za hbr hb8;clear hb8 k0 k78;obtain⟨k0,k78⟩:=HC _ hp)
      |(go_at_call 92;refine(HH _ (HT _ hbr) _ _ (by first|exact .inl ⟨rfl,rfl⟩|exact .inr ⟨rfl,rfl⟩)).mono ?_;rintro e w9 ⟨rfl,hb9⟩;replace hp:=hp.below hb9;replace hq7:=hq7.below hb9;replace hbr:=za hbr hb9;clear hb9 k0 k78;obtain⟨k0,k78⟩:=HC _ hp)
      |(go_at_call 62;refine(HK _ (HT _ hbr) _ _ (by first|exact .inl ⟨rfl,rfl⟩|exact .inr ⟨rfl,rfl⟩)).mono ?_;rintro e w10 ⟨rfl,hb10⟩;replace hp:=hp.below hb10;replace hq7:=hq7.below hb10;replace hbr:=za hbr hb10;clear hb10 k0 k78;obtain⟨k0,k78⟩:=HC _ hp))
     go_ret
     exact⟨zy (by simp [h8']),hbr⟩
   case true=>
    by_cases h3:v=3
    ·subst h3
     cases h2
     all_goals
      go_wp2_with (first
       |((with_reducible refine ze rfl _ rfl ?_);refine⟨bq,q,rfl,hq7,?_⟩)
       |((with_reducible refine zh rfl _ rfl ?_);refine⟨bq,q,rfl,hq7,?_⟩)
       |(go_at_call 91;refine(HR _).mono ?_;rintro e w8 ⟨rfl,hb8⟩;replace hp:=hp.below hb8;replace hq7:=hq7.below hb8;replace hbr:=za hbr hb8;clear hb8 k0 k78;obtain⟨k0,k78⟩:=HC _ hp)
       |(go_at_call 92;refine(HH _ (HT _ hbr) _ _ (by first|exact .inl ⟨rfl,rfl⟩|exact .inr ⟨rfl,rfl⟩)).mono ?_;rintro e w9 ⟨rfl,hb9⟩;replace hp:=hp.below hb9;replace hq7:=hq7.below hb9;replace hbr:=za hbr hb9;clear hb9 k0 k78;obtain⟨k0,k78⟩:=HC _ hp)
       |(go_at_call 62;refine(HK _ (HT _ hbr) _ _ (by first|exact .inl ⟨rfl,rfl⟩|exact .inr ⟨rfl,rfl⟩)).mono ?_;rintro e w10 ⟨rfl,hb10⟩;replace hp:=hp.below hb10;replace hq7:=hq7.below hb10;replace hbr:=za hbr hb10;clear hb10 k0 k78;obtain⟨k0,k78⟩:=HC _ hp))
      go_ret
      exact⟨zy sp,hbr⟩
    ·have h3':(v !=3)=true:=by rw [bne_iff_ne];exact h3
     have h3'':(v==3)=false:=by rw [beq_eq_false_iff_ne];exact h3
     clear h3
     go_wp2_with (first
      |((with_reducible refine ze rfl _ rfl ?_);refine⟨bq,q,rfl,hq7,?_⟩)
      |((with_reducible refine zh rfl _ rfl ?_);refine⟨bq,q,rfl,hq7,?_⟩)
      |(go_at_call 91;refine(HR _).mono ?_;rintro e w8 ⟨rfl,hb8⟩;replace hp:=hp.below hb8;replace hq7:=hq7.below hb8;replace hbr:=za hbr hb8;clear hb8 k0 k78;obtain⟨k0,k78⟩:=HC _ hp)
      |(go_at_call 92;refine(HH _ (HT _ hbr) _ _ (by first|exact .inl ⟨rfl,rfl⟩|exact .inr ⟨rfl,rfl⟩)).mono ?_;rintro e w9 ⟨rfl,hb9⟩;replace hp:=hp.below hb9;replace hq7:=hq7.below hb9;replace hbr:=za hbr hb9;clear hb9 k0 k78;obtain⟨k0,k78⟩:=HC _ hp)
      |(go_at_call 62;refine(HK _ (HT _ hbr) _ _ (by first|exact .inl ⟨rfl,rfl⟩|exact .inr ⟨rfl,rfl⟩)).mono ?_;rintro e w10 ⟨rfl,hb10⟩;replace hp:=hp.below hb10;replace hq7:=hq7.below hb10;replace hbr:=za hbr hb10;clear hb10 k0 k78;obtain⟨k0,k78⟩:=HC _ hp))
     go_ret
     exact⟨zy (by simp [h3'']),hbr⟩
theorem Lg.fn_not:∀args w,(callFunc 96 args).run prog w= .ok (.enter 96 args) w:=enters_of func96 kr rfl
theorem Lg.fn_well:∀args w,(callFunc 97 args).run prog w= .ok (.enter 97 args) w:=enters_of func97 kr rfl
theorem Lg.fn_takes:∀args w,(callFunc 99 args).run prog w= .ok (.enter 99 args) w:=enters_of func99 kr rfl
theorem Lg.pred_not(f pb ib:Nat)(eg:∀args w,(callFunc f args).run prog w= .ok (.enter f args) w)(l:List Mv)(g:Mv→Bool)(w:World)(hP:Lg.Pred f pb l g w.heap.size w)(hI:w.cell? ⟨ib,0,none⟩=some (.func (.func f) #[] #[.pointer (some ⟨pb,0,none⟩)])):
  Lg.Pred 96 ib l (fun m=> !g m) w.heap.size w:=by
 intro W hW m hm
 obtain⟨f',t',p',d',c'⟩:=m
 have hI':=(hW.cell (p:=⟨ib,0,none⟩) (World.block_lt_of_cell? w _ hI)).trans hI
 have hI2:=(((Below.refl W.heap.size W).alloc (Nat.le_refl _) (.cells #[.int .i8 f',.int .i8 t',.int .u8 p',.int .u8 d',.bool c'] 47)).cell (p:=⟨ib,0,none⟩) (World.block_lt_of_cell? W _ hI')).trans hI'
 have hr:=RowAt.new W #[.int .i8 f',.int .i8 t',.int .u8 p',.int .u8 d',.bool c'] 47
 have hb:=(Below.refl W.heap.size W).alloc (Nat.le_refl _) (.cells #[.int .i8 f',.int .i8 t',.int .u8 p',.int .u8 d',.bool c'] 47)
 obtain⟨b,hg⟩:∃b,g (f',t',p',d',c')=b:=⟨_,rfl⟩
 have HC:=hid (hg▸hP _ (hW.trans (hb.mono hW.size)) _ hm)
 show Calls _ _ _ _ fun e W'=>e= .returned (.bool (!g (f',t',p',d',c')))∧_
 rw [hg]
 clear hP hI hI' hW hm hg
 unfold M.cell
 go_enter func96,ntmps96
 go_wp2_with (first
  |((with_reducible refine zj rfl 47 _ rfl underlying47 rfl ?_);refine⟨_,47,#[.int .i8 f',.int .i8 t',.int .u8 p',.int .u8 d',.bool c'],rfl,hr,Lg.size_mv _ rfl,?_⟩)
  |(go_at_fn f;refine HC.mono ?_;rintro e w2 ⟨rfl,hb2⟩))
 go_ret
 exact⟨rfl,za hb hb2⟩
theorem Lg.pred_well(c:Nat→Int)(pb:Nat)(l:List Mv)(w:World)(hc:PosOk c)(hT:Tb w)(hp:PosAt w pb c)(hl:∀m,m∈l→m∈A.all c):Lg.Pred 97 pb l (G.well c) w.heap.size w:=by
 intro W hW m hm
 have HC:=hid (fun W' (h:Below W.heap.size W W')=>zgN c m W' hc (zi hT (za hW h)) (hl m hm))
 obtain⟨f',t',p',d',c'⟩:=m
 have hp':=(hp.below hW).alloc (.cells #[.int .i8 f',.int .i8 t',.int .u8 p',.int .u8 d',.bool c'] 47)
 have hr:=RowAt.new W #[.int .i8 f',.int .i8 t',.int .u8 p',.int .u8 d',.bool c'] 47
 have hb:=(Below.refl W.heap.size W).alloc (Nat.le_refl _) (.cells #[.int .i8 f',.int .i8 t',.int .u8 p',.int .u8 d',.bool c'] 47)
 obtain⟨r,hr'⟩:∃r,G.well c (f',t',p',d',c')=r:=⟨_,rfl⟩
 rw [hr']at HC⊢
 clear hp hl hc hT hm hW hr'
 unfold M.cell at*
 go_enter func97,ntmps97
 go_wp2_with (first
  |((with_reducible refine ze rfl _ rfl ?_);refine⟨_,_,rfl,hp',?_⟩)
  |((with_reducible refine zj rfl 47 _ rfl underlying47 rfl ?_);refine⟨_,47,#[.int .i8 f',.int .i8 t',.int .u8 p',.int .u8 d',.bool c'],rfl,hr,Lg.size_mv _ rfl,?_⟩)
  |(go_at_call 98;refine(HC _ hb).mono ?_;rintro e w2 ⟨rfl,hb2⟩))
 go_ret
 exact⟨rfl,za hb hb2⟩
theorem Lg.pred_takes(c:Nat→Int)(pb:Nat)(l:List Mv)(w:World)(hc:PosOk c)(hT:Tb w)(hp:PosAt w pb c):Lg.Pred 99 pb l (G.takes c) w.heap.size w:=by
 intro W hW m hm
 obtain⟨f',t',p',d',c'⟩:=m
 have HC:=hid (fun W' (h:Below W.heap.size W W')=>ze4 c f' t' p' d' c' W' hc (zi hT (za hW h)))
 have hp':=(hp.below hW).alloc (.cells #[.int .i8 f',.int .i8 t',.int .u8 p',.int .u8 d',.bool c'] 47)
 have hr:=RowAt.new W #[.int .i8 f',.int .i8 t',.int .u8 p',.int .u8 d',.bool c'] 47
 have hb:=(Below.refl W.heap.size W).alloc (Nat.le_refl _) (.cells #[.int .i8 f',.int .i8 t',.int .u8 p',.int .u8 d',.bool c'] 47)
 unfold G.takes
 obtain⟨r,hr'⟩:∃r,decide (0≤Z.taken c (f',t',p',d',c'))=r:=⟨_,rfl⟩
 rw [hr']at HC⊢
 clear hp hc hT hm hW hr'
 unfold M.cell
 go_enter func99,ntmps99
 go_wp2_with (first
  |((with_reducible refine ze rfl _ rfl ?_);refine⟨_,_,rfl,hp',?_⟩)
  |((with_reducible refine zj rfl 47 _ rfl underlying47 rfl ?_);refine⟨_,47,#[.int .i8 f',.int .i8 t',.int .u8 p',.int .u8 d',.bool c'],rfl,hr,Lg.size_mv _ rfl,?_⟩)
  |(go_at_call 100;refine(HC _ hb).mono ?_;rintro e w2 ⟨rfl,hb2⟩))
 go_ret
 exact⟨rfl,za hb hb2⟩
theorem zc9(f pb:Nat)(eg:∀args w,(callFunc f args).run prog w= .ok (.enter f args) w)(l:List Mv)(v:Value)(g:Mv→Bool)(w:World)(hr:M.Reads w v l)(hN:l.length≤100000)(hP:Lg.Pred f pb l g w.heap.size w):
  Calls prog 93 #[v,.func (.func f) #[] #[.pointer (some ⟨pb,0,none⟩)]] w fun e w'=>∃v',e= .returned v'∧M.Reads w' v' (l.filter g)∧Below w.heap.size w w':=by
 have hb1:Below w.heap.size w (w.alloc (.cells #[.func (.func f) #[] #[.pointer (some ⟨pb,0,none⟩)]] 157)):=bA
 obtain⟨W1,hW1⟩:∃W1,w.alloc (.cells #[.func (.func f) #[] #[.pointer (some ⟨pb,0,none⟩)]] 157)=W1:=⟨_,rfl⟩
 have hI:W1.cell? ⟨w.heap.size,0,none⟩=some (.func (.func f) #[] #[.pointer (some ⟨pb,0,none⟩)]):=by rw [←hW1];exact(RowAt.new w #[.func (.func f) #[] #[.pointer (some ⟨pb,0,none⟩)]] 157).cell 0
 rw [hW1]at hb1
 have hP1:=Lg.pred_not f pb w.heap.size eg l g W1 (fun W hW m hm=>hP W (za hb1 hW) m hm) hI
 have HR:=hid (hr.below hb1)
 have HF:=hid (show l.filter (fun m=> !(fun m=> !g m) m)=l.filter g by simp)
 have HK:=hid (fun v' w2 (h:w2.ownsRow W1.heap.size 47 5 v' l.length (M.cells l)) (hb:Below W1.heap.size W1 w2)=>HF.out▸zhs 96 w.heap.size W1.heap.size Lg.fn_not l v' (fun m=> !g m) W1 w2 h hb hb.size hN hP1)
 have HC:=hid (zgY l v W1 HR hN)
 have HB:=hid hb1
 clear hP hP1 hI hr hb1 HF
 go_enter func93,ntmps93
 go_wp2_with (first
  |(go_at_call 95;refine HC.mono ?_;rintro e w2 ⟨v2,rfl,hown2,hb2⟩;have HO2:=hid hown2;have HB2:=hid hb2;clear hown2 hb2)
  |(go_at_call 94;refine(HK v2 w2 HO2 HB2).mono ?_;rintro e w3 ⟨v3,rfl,hr3,hb3⟩))
 go_ret
 exact⟨_,rfl,hr3,za HB hb3⟩
theorem Lg.all_len(c:Nat→Int)(hc:PosOk c):(A.all c).length≤40000:=by
 have n1:=zd0 c
 have n2:=T.clist_len c
 have n3:(A.drops c).length≤320:=by
  rw [A.drops_eq c (zw hc)]
  split
  ·have:=A.dall_len c (c 78).toNat 5
   omega
  ·simp
 unfold A.all
 rw [List.length_append,List.length_append,List.length_map]
 omega
theorem zdt(c:Nat→Int)(w:World)(hc:PosOk c)(hT:Tb w):
  Calls prog 44 #[.agg (posC c)] w fun e w'=>∃v,e= .returned v∧M.Reads w' v (G.would c)∧Below w.heap.size w w':=by
 have hp:=PosAt.new w c
 have hb:Below w.heap.size w (w.alloc (.cells (posC c) 31)):=bA
 obtain⟨W,hW⟩:∃W,w.alloc (.cells (posC c) 31)=W:=⟨_,rfl⟩
 rw [hW]at hp hb
 obtain⟨v,hv⟩:∃v,c 0=v:=⟨_,rfl⟩
 obtain⟨t,ht⟩:∃t,c 78=t:=⟨_,rfl⟩
 have v0:=zp hc (i:=0) dc rfl
 have t0:=zp hc (i:=78) dc rfl
 rw [hv]at v0
 rw [ht]at t0
 obtain⟨r,hr⟩:∃r,V.royal v t=r:=⟨_,rfl⟩
 obtain⟨h1,hh1⟩:∃b,G.has c t=b:=⟨_,rfl⟩
 obtain⟨L,hL⟩:∃L,(A.all c).filter (G.well c)=L:=⟨_,rfl⟩
 obtain⟨y,hy⟩:∃y,L.any (G.takes c)=y:=⟨_,rfl⟩
 have HE:Hid (G.would c=if(r&& !h1)=true then []else if v=4∧y=true then L.filter (G.takes c)else L):=hid (by unfold G.would G.none;rw [hL,hv,ht,hr,hh1,hy])
 have HT:=hid (fun W' (hb':Below w.heap.size w W')=>zi hT hb')
 have HR:Hid (∀W,cB 91 #[.int .u8 v,.int .u8 t] W (.bool r)):=hid (fun W=>zar v t r W om om hr)
 have HH:Hid (∀W,Tb W→cB 92 #[.agg (posC c),.int .u8 t] W (.bool h1)):=hid (fun W h=>hh1▸zb3 c t W (zw hc) h)
 have HA:=hid (fun W h=>zeH c W hc h)
 have HK:=hid (fun(v':Value) (W':World) (hr':M.Reads W' v' (A.all c)) (h:Tb W') (hp':PosAt W' w.heap.size c)=>hL▸zc9 97 w.heap.size Lg.fn_well (A.all c) v' (G.well c) W' hr' (by have:=Lg.all_len c hc;omega) (Lg.pred_well c w.heap.size _ W' hc h hp' (fun m hm=>hm)))
 have hLn:L.length≤100000:=by
  have h1:=List.length_filter_le (G.well c) (A.all c)
  have h2:=Lg.all_len c hc
  rw [hL]at h1
  omega
 have HC:=hid (fun(v':Value) (W':World) (hr':M.Reads W' v' L) (h:Tb W') (hp':PosAt W' w.heap.size c)=>hy▸zbn 99 w.heap.size Lg.fn_takes L v' (G.takes c) W' hr' hLn (Lg.pred_takes c w.heap.size _ W' hc h hp'))
 have HK2:=hid (fun(v':Value) (W':World) (hr':M.Reads W' v' L) (h:Tb W') (hp':PosAt W' w.heap.size c)=>zc9 99 w.heap.size Lg.fn_takes L v' (G.takes c) W' hr' hLn (Lg.pred_takes c w.heap.size _ W' hc h hp'))
 have HP:Hid (∀W,PosAt W w.heap.size c→W.cell? ⟨w.heap.size,0,none⟩=some (.int .u8 v)∧W.cell? ⟨w.heap.size,78,none⟩=some (.int .u8 t)):=hid (fun W hp=>by
  have h1:=hp.cellK 0 dc .u8 rfl
  have h2:=hp.cellK 78 dc .u8 rfl
  rw [hv]at h1
  rw [ht]at h2
  exact⟨h1,h2⟩)
 obtain⟨X,hX⟩:∃X,G.would c=X:=⟨_,rfl⟩
 rw [hX]
 replace HE:=hid (hX.symm.trans HE)
 clear hc hT hv ht hr hh1 hL hy hX v0 t0 hLn
 obtain⟨k0,k78⟩:=HP _ hp
 go_enter func44,ntmps44
 go_upto_region 1 with fail
 clear hW
 cases r
 case true=>
  cases h1
  case false=>
   go_wp2_with (first
    |(go_at_call 91;refine(HR _).mono ?_;rintro e w2 ⟨rfl,hb2⟩;replace hp:=hp.below hb2;replace hb:=za hb hb2;clear hb2 k0 k78;obtain⟨k0,k78⟩:=HP _ hp)
    |((with_reducible refine zh rfl _ rfl ?_);refine⟨_,_,rfl,hp,?_⟩)
    |(go_at_call 92;refine(HH _ (HT _ hb)).mono ?_;rintro e w3 ⟨rfl,hb2⟩;replace hp:=hp.below hb2;replace hb:=za hb hb2;clear hb2 k0 k78;obtain⟨k0,k78⟩:=HP _ hp))
   go_ret
   exact⟨_,rfl,by rw [HE.out,if_pos (show(true&& !false)=true from rfl)];exact M.reads_own (World.ownsRow_nil w3 0 47 5),hb⟩
  case true=>
   go_upto_region 6 with(first
    |(go_at_call 91;refine(HR _).mono ?_;rintro e w2 ⟨rfl,hb2⟩;replace hp:=hp.below hb2;replace hb:=za hb hb2;clear hb2 k0 k78;obtain⟨k0,k78⟩:=HP _ hp)
    |((with_reducible refine ze rfl _ rfl ?_);refine⟨_,_,rfl,hp,?_⟩)
    |((with_reducible refine zh rfl _ rfl ?_);refine⟨_,_,rfl,hp,?_⟩)
    |(go_at_call 92;refine(HH _ (HT _ hb)).mono ?_;rintro e w3 ⟨rfl,hb2⟩;replace hp:=hp.below hb2;replace hb:=za hb hb2;clear hb2 k0 k78;obtain⟨k0,k78⟩:=HP _ hp)
    |(go_at_call 50;refine(HA _ (HT _ hb)).mono ?_;rintro e w4 ⟨v4,rfl,hown4,hb2⟩;have HR4:=hid (M.reads_own hown4);replace hp:=hp.below hb2;replace hb:=za hb hb2;clear hb2 hown4 k0 k78;obtain⟨k0,k78⟩:=HP _ hp)
    |(go_at_call 93;refine(HK _ _ HR4 (HT _ hb) hp).mono ?_;rintro e w5 ⟨v5,rfl,hr5,hb2⟩;have HR5:=hid hr5;replace hp:=hp.below hb2;replace hb:=za hb hb2;clear hb2 hr5 k0 k78;obtain⟨k0,k78⟩:=HP _ hp))
   by_cases h4:v=4
   ·subst h4
    cases y
    all_goals
     go_wp2_with (first
      |(go_at_call 101;refine(HC _ _ HR5 (HT _ hb) hp).mono ?_;rintro e w6 ⟨rfl,hb2⟩;have HR6:=hid (HR5.below hb2);replace hp:=hp.below hb2;replace hb:=za hb hb2;clear hb2 k0 k78)
      |(go_at_call 93;refine(HK2 _ _ HR6 (HT _ hb) hp).mono ?_;rintro e w7 ⟨v7,rfl,hr7,hb2⟩;have HR7:=hid hr7;replace hb:=za hb hb2;clear hb2 hr7))
     go_ret
     exact⟨_,rfl,by(have hE:=HE.out;simp at hE;rw [hE];first|exact HR7|exact HR6.out),hb⟩
   ·have h4':(v==4)=false:=by rw [beq_eq_false_iff_ne];exact h4
    have HI:=hid (fun h:v=4∧y=true=>h4 h.1)
    clear h4
    go_wp2
    go_ret
    exact⟨_,rfl,by rw [HE.out,if_neg sp,if_neg HI.out];exact HR5.out,hb⟩
 case false=>
  go_upto_region 6 with(first
   |(go_at_call 91;refine(HR _).mono ?_;rintro e w2 ⟨rfl,hb2⟩;replace hp:=hp.below hb2;replace hb:=za hb hb2;clear hb2 k0 k78;obtain⟨k0,k78⟩:=HP _ hp)
   |((with_reducible refine ze rfl _ rfl ?_);refine⟨_,_,rfl,hp,?_⟩)
   |((with_reducible refine zh rfl _ rfl ?_);refine⟨_,_,rfl,hp,?_⟩)
   |(go_at_call 92;refine(HH _ (HT _ hb)).mono ?_;rintro e w3 ⟨rfl,hb2⟩;replace hp:=hp.below hb2;replace hb:=za hb hb2;clear hb2 k0 k78;obtain⟨k0,k78⟩:=HP _ hp)
   |(go_at_call 50;refine(HA _ (HT _ hb)).mono ?_;rintro e w4 ⟨v4,rfl,hown4,hb2⟩;have HR4:=hid (M.reads_own hown4);replace hp:=hp.below hb2;replace hb:=za hb hb2;clear hb2 hown4 k0 k78;obtain⟨k0,k78⟩:=HP _ hp)
   |(go_at_call 93;refine(HK _ _ HR4 (HT _ hb) hp).mono ?_;rintro e w5 ⟨v5,rfl,hr5,hb2⟩;have HR5:=hid hr5;replace hp:=hp.below hb2;replace hb:=za hb hb2;clear hb2 hr5 k0 k78;obtain⟨k0,k78⟩:=HP _ hp))
  by_cases h4:v=4
  ·subst h4
   cases y
   all_goals
    go_wp2_with (first
     |(go_at_call 101;refine(HC _ _ HR5 (HT _ hb) hp).mono ?_;rintro e w6 ⟨rfl,hb2⟩;have HR6:=hid (HR5.below hb2);replace hp:=hp.below hb2;replace hb:=za hb hb2;clear hb2 k0 k78)
     |(go_at_call 93;refine(HK2 _ _ HR6 (HT _ hb) hp).mono ?_;rintro e w7 ⟨v7,rfl,hr7,hb2⟩;have HR7:=hid hr7;replace hb:=za hb hb2;clear hb2 hr7))
    go_ret
    exact⟨_,rfl,by(have hE:=HE.out;simp at hE;rw [hE];first|exact HR7|exact HR6.out),hb⟩
  ·have h4':(v==4)=false:=by rw [beq_eq_false_iff_ne];exact h4
   have HI:=hid (fun h:v=4∧y=true=>h4 h.1)
   clear h4
   go_wp2
   go_ret
   exact⟨_,rfl,by rw [HE.out,if_neg sp,if_neg HI.out];exact HR5.out,hb⟩
theorem zeA(c:Nat→Int)(hc:PosOk c):(G.would c).length≤100000:=by
 have h2:=Lg.all_len c hc
 have h1:=List.length_filter_le (G.well c) (A.all c)
 have h3:=List.length_filter_le (G.takes c) ((A.all c).filter (G.well c))
 unfold G.would
 split
 ·simp
 ·split<;>omega
theorem Lg.size_res:(prog.info? 49).map (·.size)=some 2:=by kernel_rfl
def Lg.res(s y:Int):Array Value:= #[.int .u8 s,.int .u8 y]
theorem Lg.res_one(s y:Int):(Lg.res s y).all (·.oneCell')=true:=by simp [Lg.res,Value.oneCell']
theorem zaQ(t y:Int)(w:World)(h:t=0∨t=1):cB 264 #[.int .u8 t,.int .u8 y] w (.agg (Lg.res (1+t) y)):=by
 have hu:IntKind.u8.wrap (1+t)=1+t:=by rw [IntKind.wrap_u8];omega
 clear h
 go_enter func264,ntmps264
 go_wp2_with ((with_reducible refine zb rfl 49 _ _ rfl ?_);refine⟨w.heap.size,49,Lg.res (1+t) y,rfl,rfl,⟨_,heap_alloc_new _ _,rfl⟩,Lg.size_res,Lg.res_one _ _,?_⟩;intro W9 hP9 hr9)
 exact bodyPost_ret (v:= .agg (Lg.res (1+t) y)) (results_cell_row results264 _ _ w.heap.size 49 _ (0,0) _ rfl hr9.heap underlying49 rfl Lg.size_res) rfl ⟨rfl,hP9.below bA (Nat.le_refl _)⟩
theorem zfi(c:Nat→Int)(w:World)(hc:PosOk c)(hT:Tb w)(t:Int)(ht:c 78=t)(h01:t=0∨t=1):cB 179 #[.agg (posC c)] w (.agg (if G.has c t=true then Lg.res 0 0 else Lg.res (1+(1-t)) 6)):=by
 have hu:IntKind.u8.wrap (1-t)=1-t:=by rw [IntKind.wrap_u8];omega
 have HW:=hid (fun W=>zaQ (1-t) 6 W om)
 have hp:=(PosAt.new w c).alloc (.cells #[.int .u8 0,.int .u8 0] 49)
 have hr:=RowAt.new (w.alloc (.cells (posC c) 31)) #[.int .u8 0,.int .u8 0] 49
 have hb:Below w.heap.size w ((w.alloc (.cells (posC c) 31)).alloc (.cells #[.int .u8 0,.int .u8 0] 49)):=bA.alloc sp _
 rw [World.size_alloc]at hr
 have k78:=hp.cellK 78 dc .u8 rfl
 rw [ht]at k78
 have HK:=hid (fun W (h:PosAt W w.heap.size c)=>(show W.cell? ⟨w.heap.size,78,none⟩=some (.int .u8 t) by have:=h.cellK 78 dc .u8 rfl;rwa [ht]at this))
 obtain⟨h1,hh1⟩:∃b,G.has c t=b:=⟨_,rfl⟩
 have HH:=hid (fun W h=>hh1▸zb3 c t W (zw hc) h)
 have HT:=hid (fun W (hb:Below w.heap.size w W)=>zi hT hb)
 rw [hh1]
 clear hc hT ht h01 hh1
 cases h1
 all_goals
  go_enter func179,ntmps179
  go_wp2_with (first
   |((with_reducible refine ze rfl _ rfl ?_);refine⟨_,_,rfl,hp,?_⟩)
   |(go_at_call 92;refine(HH _ (HT _ hb)).mono ?_;rintro e w2 ⟨rfl,hb2⟩;replace hp:=hp.below hb2;replace hr:=hr.below hb2;replace hb:=za hb hb2;clear hb2 k78;have k78:=HK _ hp)
   |(go_at_call 264;refine(HW _).mono ?_;rintro e w2 ⟨rfl,hb2⟩;replace hr:=hr.below hb2;replace hb:=za hb hb2;clear hb2 k78)
   |((with_reducible refine zb rfl 49 _ _ rfl ?_);refine⟨w.heap.size+1,49,Lg.res _ _,rfl,rfl,⟨_,hr.heap,rfl⟩,Lg.size_res,Lg.res_one _ _,?_⟩;intro W9 hP9 hr9))
  exact bodyPost_ret (results_cell_row results179 _ _ (w.heap.size+1) 49 _ (0,0) _ rfl hr9.heap underlying49 rfl Lg.size_res) rfl ⟨rfl,hP9.below hb om⟩
theorem G.find_lt(c:Nat→Int)(z k:Int):S.find c z k<64:=by
 unfold S.find B.first
 split
 ·omega
 ·rename_i h
  have:=(Lib.lowest_bit 64 (S.of c z k).toNat (fun e=>h (BitVec.eq_of_toNat_eq e)) (bv_lt _)).2
  omega
theorem zfd:∀args w,(callFunc 266 args).run prog w= .ok (.enter 266 args) w:=enters_of func266 kr rfl
theorem zhQ:∀args w,(callFunc 267 args).run prog w= .ok (.enter 267 args) w:=enters_of func267 kr rfl
theorem zfH:∀args w,(callFunc 269 args).run prog w= .ok (.enter 269 args) w:=enters_of func269 kr rfl
def Lg.firstR(g1 g2:Bool)(t y:Int):Array Value:=if g1=true then Lg.res (1+(1-t)) y else if g2=true then Lg.res (1+t) y else Lg.res 0 0
theorem zcE(f pb:Nat)(eg:∀args w,(callFunc f args).run prog w= .ok (.enter f args) w)(c:Nat→Int)(y:Int)(g1 g2:Bool)(w:World)(t:Int)(ht:c 78=t)(h01:t=0∨t=1)
  (hF:∀W,Below w.heap.size w W→∀z b,z=1-t∧b=g1∨z=t∧b=g2→Calls prog f #[.int .u8 z,.pointer (some ⟨pb,0,none⟩)] W fun e W'=>e= .returned (.bool b)∧Below W.heap.size W W'):
  cB 265 #[.agg (posC c),.int .u8 y,.func (.func f) #[] #[.pointer (some ⟨pb,0,none⟩)]] w (.agg (Lg.firstR g1 g2 t y)):=by
 have hu:IntKind.u8.wrap (1-t)=1-t:=by rw [IntKind.wrap_u8];omega
 have HW:=hid (fun z (h:z=1-t∨z=t) W=>zaQ z y W om)
 have HF:=hid hF
 have hp:=(PosAt.new w c).alloc (.cells #[.int .u8 0,.int .u8 0] 49)
 have hr:=RowAt.new (w.alloc (.cells (posC c) 31)) #[.int .u8 0,.int .u8 0] 49
 have hb:Below w.heap.size w ((w.alloc (.cells (posC c) 31)).alloc (.cells #[.int .u8 0,.int .u8 0] 49)):=bA.alloc sp _
 rw [World.size_alloc]at hr
 have k78:=hp.cellK 78 dc .u8 rfl
 rw [ht]at k78
 have hlt:=hr.lt
 clear hF ht h01
 go_enter func265,ntmps265
 go_upto_region 1 with fail
 obtain⟨W1,hW1⟩:∃W,((w.alloc (.cells (posC c) 31)).alloc (.cells #[.int .u8 0,.int .u8 0] 49))=W:=⟨_,rfl⟩
 rw [hW1]at hp hr hb k78 hlt⊢
 clear hW1
 go_wp2
 have hl:=RowAt.new W1 #[.int .u8 (1-t),.int .u8 t] 5
 have HB0:=hid (And.intro (hr.alloc (.cells #[.int .u8 (1-t),.int .u8 t] 5)) (And.intro hl (hb.alloc hb.size (.cells #[.int .u8 (1-t),.int .u8 t] 5))))
 obtain⟨lb,hlb⟩:∃n,W1.heap.size=n:=⟨_,rfl⟩
 rw [hlb]at HB0⊢
 clear hp hr hb k78 hl hlb hlt
 go_loopw [8,16] (fun _ i wr=>∃k:Nat,k≤2∧i= .int .i64 (k:Int)∧Hid ((0<k→g1=false)∧(1<k→g2=false))∧Hid (RowAt wr (w.heap.size+1) 49 #[.int .u8 0,.int .u8 0]∧RowAt wr lb 5 #[.int .u8 (1-t),.int .u8 t]∧Below w.heap.size w wr)) (fun _ i _=>2-(intOf i).toNat)
 case atStart=>exact⟨0,by omega,rfl,hid ⟨fun h=>by omega,fun h=>by omega⟩,HB0⟩
 case round=>
  obtain⟨k,hk,rfl,HG,HB⟩:=hrel
  rcases(show k=0∨k=1∨k=2 by omega)with rfl|rfl|rfl
  ·have c0:wr.cell? ⟨lb,0,none⟩=some (.int .u8 (1-t)):=HB.2.1.cell 0
   cases g1
   case false=>
    go_wp2_with (go_at_fn f;refine(HF _ HB.2.2 _ _ (.inl ⟨rfl,rfl⟩)).mono ?_;rintro e w2 ⟨rfl,hb2⟩)
    exact⟨⟨1,by omega,rfl,hid sp,hid ⟨HB.1.below hb2,HB.2.1.below hb2,za HB.2.2 hb2⟩⟩,by simp [intOf]⟩
   case true=>
    go_wp2_with (first
     |(go_at_fn f;refine(HF _ HB.2.2 _ _ (.inl ⟨rfl,rfl⟩)).mono ?_;rintro e w2 ⟨rfl,hb2⟩;have hr:=HB.1.below hb2;have hb:=za HB.2.2 hb2;clear hb2)
     |(go_at_call 264;refine(HW _ (.inl rfl) _).mono ?_;rintro e w3 ⟨rfl,hb2⟩;replace hr:=hr.below hb2;replace hb:=za hb hb2;clear hb2)
     |((with_reducible refine zb rfl 49 _ _ rfl ?_);refine⟨w.heap.size+1,49,Lg.res _ _,rfl,rfl,⟨_,hr.heap,rfl⟩,Lg.size_res,Lg.res_one _ _,?_⟩;intro W9 hP9 hr9))
    exact bodyPost_ret (results_cell_row results265 _ _ (w.heap.size+1) 49 _ (0,0) _ rfl hr9.heap underlying49 rfl Lg.size_res) rfl ⟨rfl,hP9.below hb om⟩
  ·have c1:wr.cell? ⟨lb,1,none⟩=some (.int .u8 t):=HB.2.1.cell 1
   obtain rfl:=HG.1 om
   cases g2
   case false=>
    go_wp2_with (go_at_fn f;refine(HF _ HB.2.2 _ _ (.inr ⟨rfl,rfl⟩)).mono ?_;rintro e w2 ⟨rfl,hb2⟩)
    exact⟨⟨2,by omega,rfl,hid sp,hid ⟨HB.1.below hb2,HB.2.1.below hb2,za HB.2.2 hb2⟩⟩,by simp [intOf]⟩
   case true=>
    go_wp2_with (first
     |(go_at_fn f;refine(HF _ HB.2.2 _ _ (.inr ⟨rfl,rfl⟩)).mono ?_;rintro e w2 ⟨rfl,hb2⟩;have hr:=HB.1.below hb2;have hb:=za HB.2.2 hb2;clear hb2)
     |(go_at_call 264;refine(HW _ (.inr rfl) _).mono ?_;rintro e w3 ⟨rfl,hb2⟩;replace hr:=hr.below hb2;replace hb:=za hb hb2;clear hb2)
     |((with_reducible refine zb rfl 49 _ _ rfl ?_);refine⟨w.heap.size+1,49,Lg.res _ _,rfl,rfl,⟨_,hr.heap,rfl⟩,Lg.size_res,Lg.res_one _ _,?_⟩;intro W9 hP9 hr9))
    exact bodyPost_ret (results_cell_row results265 _ _ (w.heap.size+1) 49 _ (0,0) _ rfl hr9.heap underlying49 rfl Lg.size_res) rfl ⟨rfl,hP9.below hb om⟩
  ·obtain rfl:=HG.1 om
   obtain rfl:=HG.2 om
   have hr:=HB.1
   go_wp2_with ((with_reducible refine zb rfl 49 _ _ rfl ?_);refine⟨w.heap.size+1,49,Lg.res 0 0,rfl,rfl,⟨_,hr.heap,rfl⟩,Lg.size_res,Lg.res_one _ _,?_⟩;intro W9 hP9 hr9)
   exact bodyPost_ret (results_cell_row results265 _ _ (w.heap.size+1) 49 _ (0,0) _ rfl hr9.heap underlying49 rfl Lg.size_res) rfl ⟨rfl,hP9.below HB.2.2 om⟩
theorem zay(c:Nat→Int)(pb:Nat)(z:Nat)(W:World)(hp:PosAt W pb c)(hz:z<2):cB 266 #[.int .u8 (z:Int),.pointer (some ⟨pb,0,none⟩)] W (.bool (decide (3≤c (84+z)))):=by
 have hc:=hp.cellK (84+z) om .u8 (H.k_ck z hz)
 have hz1:(z:Int)<2:=by omega
 obtain⟨x,hx⟩:∃x,c (84+z)=x:=⟨_,rfl⟩
 rw [hx]at hc⊢
 clear hp hx hz
 go_enter func266,ntmps266
 go_wp2
 go_ret
 exact⟨rfl,Below.refl _ _⟩
theorem Lg.hill_bit(s:Int)(h0:0≤s)(h1:s<64):(bits .and .i64 (103481868288/2 ^ s.toNat) 1==1)=(s==27||s==28||s==35||s==36):=by
 have h:∀n:Fin 64,(bits .and .i64 (103481868288/2 ^ (n.val:Int).toNat) 1==1)=((n.val:Int)==27||(n.val:Int)==28||(n.val:Int)==35||(n.val:Int)==36):=by decide+kernel
 have:=h ⟨s.toNat,by omega⟩
 rw [show((⟨s.toNat,by omega⟩:Fin 64).val:Int)=s from Int.toNat_of_nonneg h0]at this
 exact this
theorem zcC(c:Nat→Int)(pb:Nat)(z:Int)(W:World)(hc:PosOk c)(hT:Tb W)(hp:PosAt W pb c):cB 267 #[.int .u8 z,.pointer (some ⟨pb,0,none⟩)] W (.bool (G.onHill c z)):=by
 have HF:=hid (zW c z 6 W (zw hc) hT)
 obtain⟨n,hn⟩:∃n,S.find c z 6=n:=⟨_,rfl⟩
 have hb:=G.find_lt c z 6
 have HE:=hid (show G.onHill c z=(decide (0≤n)&&(n==27||n==28||n==35||n==36)) by unfold G.onHill G.has;rw [hn])
 rw [hn]at hb HF
 clear hc hT hn
 by_cases h0:0≤n
 ·have hB:=Lg.hill_bit n h0 hb
  have hw:IntKind.u64.wrap n=n:=by rw [IntKind.wrap_u64];omega
  have HE2:=hid (show G.onHill c z=(n==27||n==28||n==35||n==36) by rw [HE.out,decide_eq_true h0,Bool.true_and])
  clear HE
  go_enter func267,ntmps267
  go_wp2_with (first
   |((with_reducible refine ze rfl _ rfl ?_);refine⟨_,_,rfl,hp,?_⟩)
   |(go_at_call 132;refine HF.mono ?_;rintro e w2 ⟨rfl,hb2⟩))
  go_ret
  exact⟨zy HE2.symm,hb2⟩
 ·have HE2:=hid (show G.onHill c z=false by rw [HE.out,decide_eq_false h0];rfl)
  clear HE
  go_enter func267,ntmps267
  go_wp2_with (first
   |((with_reducible refine ze rfl _ rfl ?_);refine⟨_,_,rfl,hp,?_⟩)
   |(go_at_call 132;refine HF.mono ?_;rintro e w2 ⟨rfl,hb2⟩))
  go_ret
  exact⟨zy HE2.symm,hb2⟩
theorem Lg.of_zero(c:Nat→Int)(t:Int):(U (S.of c t 0)==0)= !G.men c t:=by
 have h:(U (S.of c t 0)=0)↔S.of c t 0=0#64:=by
  unfold U
  constructor
  ·intro h;exact BitVec.eq_of_toNat_eq (by rw [show(0#64:BitVec 64).toNat=0 from rfl];omega)
  ·intro h;rw [h];rfl
 unfold G.men
 rw [Bool.eq_iff_iff,beq_iff_eq,h]
 simp
theorem Lg.firstR_size(a b:Bool)(t y:Int):(Lg.firstR a b t y).size=2:=by cases a<;>cases b<;>rfl
theorem Lg.firstR_one(a b:Bool)(t y:Int):(Lg.firstR a b t y).all (·.oneCell')=true:=by cases a<;>cases b<;>exact Lg.res_one _ _
theorem zd9(c:Nat→Int)(w:World)(_hc:PosOk c)(_hT:Tb w)(t:Int)(ht:c 78=t)(h01:t=0∨t=1):cB 180 #[.agg (posC c)] w (.agg (Lg.firstR (decide (3≤c (84+((1-t)).toNat))) (decide (3≤c (84+(t).toNat))) t 7)):=by
 have hp:=(PosAt.new w c).alloc (.cells #[.int .u8 0,.int .u8 0] 49)
 have hr:=RowAt.new (w.alloc (.cells (posC c) 31)) #[.int .u8 0,.int .u8 0] 49
 have hb:Below w.heap.size w ((w.alloc (.cells (posC c) 31)).alloc (.cells #[.int .u8 0,.int .u8 0] 49)):=bA.alloc sp _
 rw [World.size_alloc]at hr
 have HC:=hid (fun(W:World) (h:Below w.heap.size w W) (hq:PosAt W w.heap.size c)=>zcE 266 w.heap.size zfd c 7 (decide (3≤c (84+((1-t)).toNat))) (decide (3≤c (84+(t).toNat))) W t ht h01 (fun W' hW' z b hz=>by
  have hq':=hq.below hW'
  rcases hz with⟨rfl,rfl⟩|⟨rfl,rfl⟩<;>rcases h01 with rfl|rfl
  ·exact zay c _ 1 W' hq' dc
  ·exact zay c _ 0 W' hq' dc
  ·exact zay c _ 0 W' hq' dc
  ·exact zay c _ 1 W' hq' dc))
 clear ht h01
 go_enter func180,ntmps180
 go_upto_region 1 with fail
 obtain⟨W1,hW1⟩:∃W,((w.alloc (.cells (posC c) 31)).alloc (.cells #[.int .u8 0,.int .u8 0] 49))=W:=⟨_,rfl⟩
 rw [hW1]at hp hr hb⊢
 clear hW1
 go_wp2_with (first
  |((with_reducible refine ze rfl _ rfl ?_);refine⟨_,_,rfl,hp,?_⟩)
  |(go_at_call 265;refine(HC _ hb hp).mono ?_;rintro e w2 ⟨rfl,hb2⟩;replace hr:=hr.below hb2;replace hb:=za hb hb2;clear hb2)
  |((with_reducible refine zb rfl 49 _ _ rfl ?_);refine⟨w.heap.size+1,49,Lg.firstR _ _ _ _,rfl,rfl,⟨_,hr.heap,(by rw [Lg.firstR_size];rfl)⟩,(by rw [Lg.firstR_size];exact Lg.size_res),Lg.firstR_one _ _ _ _,?_⟩;intro W9 hP9 hr9))
 exact bodyPost_ret (results_cell_row results180 _ _ (w.heap.size+1) 49 _ (0,0) _ rfl hr9.heap underlying49 rfl (by rw [Lg.firstR_size];exact Lg.size_res)) rfl ⟨rfl,hP9.below hb om⟩
theorem zd6(c:Nat→Int)(w:World)(hc:PosOk c)(hT:Tb w)(t:Int)(ht:c 78=t)(h01:t=0∨t=1):cB 181 #[.agg (posC c)] w (.agg (Lg.firstR (G.onHill c (1-t)) (G.onHill c t) t 6)):=by
 have hp:=(PosAt.new w c).alloc (.cells #[.int .u8 0,.int .u8 0] 49)
 have hr:=RowAt.new (w.alloc (.cells (posC c) 31)) #[.int .u8 0,.int .u8 0] 49
 have hb:Below w.heap.size w ((w.alloc (.cells (posC c) 31)).alloc (.cells #[.int .u8 0,.int .u8 0] 49)):=bA.alloc sp _
 rw [World.size_alloc]at hr
 have HC:=hid (fun(W:World) (h:Below w.heap.size w W) (hq:PosAt W w.heap.size c)=>zcE 267 w.heap.size zhQ c 6 (G.onHill c (1-t)) (G.onHill c t) W t ht h01 (fun W' hW' z b hz=>by
  have hq':=hq.below hW'
  have hT':=zi hT (za h hW')
  rcases hz with⟨rfl,rfl⟩|⟨rfl,rfl⟩
  ·exact zcC c _ _ W' hc hT' hq'
  ·exact zcC c _ _ W' hc hT' hq'))
 clear hc hT ht h01
 go_enter func181,ntmps181
 go_upto_region 1 with fail
 obtain⟨W1,hW1⟩:∃W,((w.alloc (.cells (posC c) 31)).alloc (.cells #[.int .u8 0,.int .u8 0] 49))=W:=⟨_,rfl⟩
 rw [hW1]at hp hr hb⊢
 clear hW1
 go_wp2_with (first
  |((with_reducible refine ze rfl _ rfl ?_);refine⟨_,_,rfl,hp,?_⟩)
  |(go_at_call 265;refine(HC _ hb hp).mono ?_;rintro e w2 ⟨rfl,hb2⟩;replace hr:=hr.below hb2;replace hb:=za hb hb2;clear hb2)
  |((with_reducible refine zb rfl 49 _ _ rfl ?_);refine⟨w.heap.size+1,49,Lg.firstR _ _ _ _,rfl,rfl,⟨_,hr.heap,(by rw [Lg.firstR_size];rfl)⟩,(by rw [Lg.firstR_size];exact Lg.size_res),Lg.firstR_one _ _ _ _,?_⟩;intro W9 hP9 hr9))
 exact bodyPost_ret (results_cell_row results181 _ _ (w.heap.size+1) 49 _ (0,0) _ rfl hr9.heap underlying49 rfl (by rw [Lg.firstR_size];exact Lg.size_res)) rfl ⟨rfl,hP9.below hb om⟩
theorem zeZ(c:Nat→Int)(w:World)(hc:PosOk c):cB 182 #[.agg (posC c)] w (.agg (if G.men c 0=true then Lg.res 0 0 else Lg.res 2 8)):=by
 have hp:=(PosAt.new w c).alloc (.cells #[.int .u8 0,.int .u8 0] 49)
 have hr:=RowAt.new (w.alloc (.cells (posC c) 31)) #[.int .u8 0,.int .u8 0] 49
 have hb:Below w.heap.size w ((w.alloc (.cells (posC c) 31)).alloc (.cells #[.int .u8 0,.int .u8 0] 49)):=bA.alloc sp _
 rw [World.size_alloc]at hr
 have hU:=Lg.of_zero c 0
 obtain⟨z,hz⟩:∃z,G.men c 0=z:=⟨_,rfl⟩
 have HO:=hid (fun W=>zO c 0 0 W (zw hc))
 have HW:=hid (fun W=>zaQ 1 8 W om)
 rw [hz]at hU⊢
 clear hc hz
 go_enter func182,ntmps182
 go_upto_region 1 with fail
 obtain⟨W1,hW1⟩:∃W,((w.alloc (.cells (posC c) 31)).alloc (.cells #[.int .u8 0,.int .u8 0] 49))=W:=⟨_,rfl⟩
 rw [hW1]at hp hr hb⊢
 clear hW1
 cases z
 all_goals
  go_wp2_with (first
   |((with_reducible refine ze rfl _ rfl ?_);refine⟨_,_,rfl,hp,?_⟩)
   |(go_at_call 134;refine(HO _).mono ?_;rintro e w2 ⟨rfl,hb2⟩;replace hr:=hr.below hb2;replace hb:=za hb hb2;clear hb2)
   |(go_at_call 264;refine(HW _).mono ?_;rintro e w3 ⟨rfl,hb2⟩;replace hr:=hr.below hb2;replace hb:=za hb hb2;clear hb2)
   |((with_reducible refine zb rfl 49 _ _ rfl ?_);refine⟨w.heap.size+1,49,Lg.res _ _,rfl,rfl,⟨_,hr.heap,rfl⟩,Lg.size_res,Lg.res_one _ _,?_⟩;intro W9 hP9 hr9))
  exact bodyPost_ret (results_cell_row results182 _ _ (w.heap.size+1) 49 _ (0,0) _ rfl hr9.heap underlying49 rfl Lg.size_res) rfl ⟨rfl,hP9.below hb om⟩
end Go.Proofs.YtbakeajgolhkgaaGreatDoor
