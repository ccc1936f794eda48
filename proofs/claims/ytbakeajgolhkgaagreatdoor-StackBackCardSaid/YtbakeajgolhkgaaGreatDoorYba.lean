import Derived.Test.YtbakeajgolhkgaaGreatDoorYaq
import Derived.Test.YtbakeajgolhkgaaGreatDoorYau
set_option maxRecDepth 100000
set_option maxHeartbeats 8000000
open Go.Lib (hid)
namespace Go.Proofs.YtbakeajgolhkgaaGreatDoor
open Go.Proofs.Tryz
open Go.RowKit Go.Sort
attribute [local go_sem] Oper.semAt_some
theorem A.xor_all(x:BitVec 64):bits .xor .u64 18446744073709551615 (U x)=U (bNot x):=by
 have h:=zeI (BitVec.allOnes 64) x
 rw [show U (BitVec.allOnes 64)=18446744073709551615 by decide]at h
 rw [h]
 unfold bXor bNot
 rw [BitVec.allOnes_xor]
theorem A.xor_if(x:BitVec 64):bits .xor .u64 (if IntKind.u64.signed=true then-1 else IntKind.u64.max) (U x)=U (bNot x):=by
 rw [show(if IntKind.u64.signed=true then(-1:Int)else IntKind.u64.max)=18446744073709551615 by decide]
 exact A.xor_all x
theorem A.and_mid(x:BitVec 64):bits .and .u64 (U x) 72057594037927680=U (bAnd x 0x00ffffffffffff00#64):=zeK x 0x00ffffffffffff00#64
theorem A.and_all(x:BitVec 64):bAnd x (bNot 0#64)=x:=by
 unfold bAnd bNot
 exact BitVec.eq_of_getLsbD_eq (fun i hi=>by rw [BitVec.getLsbD_and,BitVec.getLsbD_not];simp [hi])
theorem zef(c:Nat→Int)(w:World)(h1:¬c 78≤1):Calls prog 120 #[.agg (posC c)] w (Z.End [] w):=by
 have hp:=PosAt.new w c
 have hb0:Below w.heap.size w (w.alloc (.cells (posC c) 31)):=bA
 obtain⟨W,hW⟩:∃W,w.alloc (.cells (posC c) 31)=W:=⟨_,rfl⟩
 rw [hW]at hp hb0
 have h0:=hp.cell (i:=0) dc
 have h78:=hp.cell (i:=78) dc
 rw [show pk 0= .u8 from rfl]at h0
 rw [show pk 78= .u8 from rfl]at h78
 have hpl:=hp.lt
 have d1:decide (1<c 78)=true:=by simp;omega
 have HB:=hid hb0
 clear h1 hb0 hp
 go_enter func120,ntmps120
 go_wp2
 go_step3
 go_wp2
 rw [Exit.noGoto_ret]
 go_ret
 exact⟨_,rfl,World.ownsRow_nil _ _ _ _,HB⟩
theorem zfh(c:Nat→Int)(v:Nat)(w:World)(h1:c 78≤1)(hv:c 0=(v:Int))(h2:v≠2):Calls prog 120 #[.agg (posC c)] w (Z.End [] w):=by
 have hp:=PosAt.new w c
 have hb0:Below w.heap.size w (w.alloc (.cells (posC c) 31)):=bA
 obtain⟨W,hW⟩:∃W,w.alloc (.cells (posC c) 31)=W:=⟨_,rfl⟩
 rw [hW]at hp hb0
 have h0:=hp.cell (i:=0) dc
 have h78:=hp.cell (i:=78) dc
 rw [show pk 0= .u8 from rfl]at h0
 rw [show pk 78= .u8 from rfl]at h78
 have hpl:=hp.lt
 have d1:decide (1<c 78)=false:=by simp;omega
 rw [hv]at h0
 have HP:Hid (∀W,cB 196 #[.int .u8 (v:Int)] W (.bool false)):=hid (fun W=>by
  have:=zbY v W
  rwa [show decide (v=2)=false by simp;omega]at this)
 have HB:=hid hb0
 clear h1 hb0 hp hv h2
 go_enter func120,ntmps120
 go_wp2
 go_step3
 go_wp2_with (go_at_call 196;refine(HP _).mono ?_;rintro e w1 ⟨rfl,hb1⟩)
 rw [Exit.noGoto_ret]
 go_ret
 exact⟨_,rfl,World.ownsRow_nil _ _ _ _,za HB hb1⟩
theorem zgx(c:Nat→Int)(t:Nat)(w:World)(hc:PosOk c)(hT:Tb w)(ht:c 78=(t:Int))(ht1:t≤1)(hv:c 0=2):Calls prog 120 #[.agg (posC c)] w (Z.End (A.dall c t 5) w):=by
 have hp:=PosAt.new w c
 have hb0:Below w.heap.size w (w.alloc (.cells (posC c) 31)):=bA
 obtain⟨W,hW⟩:∃W,w.alloc (.cells (posC c) 31)=W:=⟨_,rfl⟩
 rw [hW]at hp hb0
 have h0:=hp.cell (i:=0) dc
 have h78:=hp.cell (i:=78) dc
 rw [show pk 0= .u8 from rfl]at h0
 rw [show pk 78= .u8 from rfl]at h78
 have hpl:=hp.lt
 rw [hv]at h0
 rw [ht]at h78
 have hbd:=zw hc
 have d1:decide (1<(t:Int))=false:=by simp;omega
 have htl:(t:Int)<2:=by omega
 have HT:Hid (∀w',Below w.heap.size w w'→Tb w'):=hid (fun w' hb=>zi hT hb)
 have HP:Hid (∀W,cB 196 #[.int .u8 2] W (.bool true)):=hid (fun W=>zbY 2 W)
 have HA:Hid (∀W,cB 197 #[.agg (posC c)] W (.int .u64 (U (S.all c)))):=hid (fun W=>zan c W hbd)
 have HC:Hid (∀w':World,PosAt w' w.heap.size c→w'.cell? ⟨w.heap.size,78,none⟩=some (.int .u8 (t:Int))∧∀k,k<6→w'.cell? ⟨w.heap.size,66+t*6+k,none⟩=some (.int .u8 (c (66+6*t+k)))):=hid (fun w' hq=>by
  have h78:=hq.cell (i:=78) dc
  rw [ht,show pk 78= .u8 from rfl]at h78
  refine⟨h78,fun k hk=> ?_⟩
  have:=hq.cell (i:=66+6*t+k) om
  rw [show pk (66+6*t+k)= .u8 by unfold pk;rw [if_neg om,if_neg om,if_pos om]]at this
  rwa [show 66+t*6+k=66+6*t+k by omega])
 have HPk:Hid (∀k,k<6→0≤c (66+6*t+k)):=hid (fun k hk=>(zp hc (i:=66+6*t+k) om (by unfold pk;rw [if_neg om,if_neg om,if_pos om])).1)
 have HBd:=hid hbd
 have HP0:=hid hp
 have HB0:=hid hb0
 clear hp hb0 hc hT ht hv hbd
 obtain⟨i0,hi,hz0,hz1,hz2⟩:=info_parts info_Mv
 go_enter func120,ntmps120
 go_wp2
 go_step3
 go_wp2_with (go_at_call 196;refine(HP _).mono ?_;rintro e w1 ⟨rfl,hb1⟩;have HP1:=hid (HP0.below hb1);have HB1:=hid (za HB0 hb1);clear hb1)
 go_step3
 go_wp2
 go_loopw [3,18] (fun x i wr=>∃n:Nat,n≤5∧i= .int .i64 (n:Int)∧wr.ownsRow (w.heap.size+1) 47 5 x (A.dall c t n).length (M.cells (A.dall c t n))∧PosAt wr w.heap.size c∧Below w.heap.size w wr) (fun _ i _=>5-(intOf i).toNat)
 case atStart=>exact⟨0,Nat.zero_le _,rfl,World.ownsRow_nil _ _ _ _,HP1,HB1⟩
 case round=>
  obtain⟨n,hn,rfl,hown,hp,hbr⟩:=hrel
  by_cases hlt:n<5
  ·have hlA:=A.dall_len c t n
   obtain⟨LA,hLA⟩:∃LA,A.dall c t n=LA:=⟨_,rfl⟩
   have hst:A.dall c t (n+1)=LA++A.drowP c t (n+1):=by rw [A.dall,hLA]
   rw [hLA]at hown hlA
   obtain⟨c78,hcell⟩:=HC wr hp
   have hk1:=hcell (n+1) om
   have hwk:IntKind.u8.wrap ((n:Int)+1)=((n+1:Nat):Int):=by rw [IntKind.wrap_u8];omega
   have hwn:wrap64 ((n:Int)+1)=(n:Int)+1:=by simp only [wrap64];omega
   have hk6:((n+1:Nat):Int)<6:=by omega
   have hbl:=hp.lt
   clear hcell hLA
   cases hz:(c (66+6*t+(n+1))==0)
   ·obtain⟨bw,hbw⟩:∃bw,A.where' c (n+1)=bw:=⟨_,rfl⟩
    have hfull:(B.list bw).map (A.dmv (n+1))=A.drow c (n+1) 64:=by
     rw [←hbw]
     exact A.map_row _ c (n+1) (fun s hs=>A.where_sq c (n+1) s HBd hs) 64 (Nat.le_refl _)
    have hst2:A.dall c t (n+1)=LA++(B.list bw).map (A.dmv (n+1)):=by
     rw [hst,hfull]
     unfold A.drowP
     rw [if_neg (by simpa using hz)]
    have HS2:=hid hst2
    have HLs:Hid (∀W,Tb W→Calls prog 129 #[.int .u64 (U bw)] W fun e w'=>∃v,e= .returned v∧w'.ownsRow W.heap.size 3 1 v (B.list bw).length (B.ints (B.list bw))∧Below W.heap.size W w'):=hid (fun W h=>zbF bw W h)
    have hL64:=B.list_len bw
    have hLm:=zb6 bw
    have HOw:=hid hown
    have HPr:=hid hp
    have HBr:=hid hbr
    clear hown hp hbr hst hst2 hfull
    cases h1:decide (n=0)
    ·have hkk:((n:Int)+1==1)=false:=by simp at h1⊢;omega
     have hbw2:=hbw
     unfold A.where' A.dmask at hbw2
     rw [if_neg (by simp at h1;omega),A.and_all]at hbw2
     have HX:=hid (show bits .xor .u64 (if IntKind.u64.signed=true then-1 else IntKind.u64.max) (U (S.all c))=U bw by rw [A.xor_if,hbw2])
     clear hbw hbw2 h1
     go_wp2_with (first
      |((with_reducible refine zh rfl _ rfl ?_);refine⟨_,_,rfl,HPr,?_⟩)
      |(go_at_call 197;refine(HA _).mono ?_;rintro e w2 ⟨rfl,hb2⟩;have HO2:=hid (zq HOw hb2);have HP2:=hid (HPr.below hb2);have HB2:=hid (za HBr hb2);clear hb2)
      |(go_at_call 129;rw [HX.out];refine(HLs _ (HT _ HB2)).mono ?_;rintro e w3 ⟨v3,rfl,hown3,hb3⟩;have HO3:=hid (zq HO2 hb3);have HP3:=hid (HP2.below hb3);have HB3:=hid (za HB2 hb3);have HI3:=hid hown3;obtain⟨ao,cap,rfl,hcap,hcm,_⟩:=zD hown3;clear hown3 hb3))
     have HN:=hid (And.intro hn hbl)
     have HLA:=hid hlA
     clear hn hbl c78 hk1 hlA
     obtain⟨LB,hLB⟩:∃LB,B.list bw=LB:=⟨_,rfl⟩
     rw [hLB]at HI3 hL64 hLm HS2⊢
     have HLm:=hid hLm
     clear hLB hLm
     go_loopw [3,42] (fun x i wq=>∃j:Nat,j≤LB.length∧i= .int .i64 (j:Int)∧wq.ownsRow (w.heap.size+1) 47 5 x (LA++(LB.take j).map (A.dmv (n+1))).length (M.cells (LA++(LB.take j).map (A.dmv (n+1))))∧wq.ownsRow (w.heap.size+1) 3 1 (.slice ao LB.length cap) LB.length (B.ints LB)∧PosAt wq w.heap.size c∧Below w.heap.size w wq) (fun _ i _=>LB.length-(intOf i).toNat)
     case atStart=>exact⟨0,Nat.zero_le _,rfl,by rw [List.take_zero,List.map_nil,List.append_nil];exact HO3.out,zbs HI3 (by have:=HP2.lt;omega),HP3,HB3⟩
     case round=>
      obtain⟨j,hj,rfl,hown,hk,hp,hbr⟩:=hrel
      by_cases hlj:j<LB.length
      ·obtain⟨s,hs⟩:∃s,LB[j]? =some s:=⟨LB[j],List.getElem?_eq_getElem hlj⟩
       have hs64:=HLm j s hs
       have HTk:=hid (zdQ LB j s hs)
       have hlen:(LA++(LB.take j).map (A.dmv (n+1))).length≤400:=by have:=A.dall_len c t n;have:=HLA.out;simp;omega
       obtain⟨ao2,cap2,e2,hcap2,hcm2,hao2⟩:=zD hk
       cases e2
       obtain⟨kb,rfl,hkb1,hkb2,hcell⟩:=hao2 om
       have hc1:=hcell j _ (ints_at LB j s hs)
       have w8:=i8_sq s hs64
       have HK:=hid hk
       have HJ:=hid hj
       clear hao2 hcell hs hk hj
       go_wp2_with (at_builtin;refine wpList_append_own_at _ rfl _ _ 39 rfl (w.heap.size+1) 47 i0 (.agg #[.int .i8 0,.int .i8 0,.int .u8 0,.int .u8 0,.bool false]) 5 5 underlying39 hi hz0 hz1 hz2 rfl dc _ _ _ rfl (hown.alloc _) ⟨_,0,none⟩ 1 1 (M.cell (A.dmv (n+1) s)) rfl rfl (zfv (RowAt.newAt wr (M.cell (A.dmv (n+1) s)).toArray 47 _ (by first|rfl|simp))) (zfP _) (by unfold maxLen;omega) om (by simp;omega) ?_;intro v' w4 hown4 hgrow _ hat)
       have hj2:=HJ.out
       go_roundw
       case measure=>simp [intOf];omega
       refine⟨j+1,by omega,by go_num,?_,?_,?_,?_⟩
       ·rw [HTk.out,List.map_append,←List.append_assoc,List.length_append,List.map_cons,List.map_nil,M.cells_snoc];exact hown4
       ·exact(HK.alloc _).kept hgrow (.inr (fun e=>owns_ne hown HK dc kb e.symm rfl))
       ·exact(hp.alloc _).grown hgrow (fun q hq=>by have:=(hown.lt q hq).1;omega)
       ·exact(hbr.alloc hbr.size _).grown hgrow (by simp;have:=hbr.size;omega) (fun q hq=>by have:=(hown.lt q hq).1;omega)
      ·obtain rfl:j=LB.length:=by omega
       rw [List.take_length]at hown
       have HO4:=hid hown
       have HP4:=hid hp
       have HB4:=hid hbr
       clear hown hk hp hbr hj
       go_wp2
       have hn2:=HN.1
       go_roundw
       case rel=>exact⟨n+1,by omega,by go_num,by rw [HS2.out];exact HO4.out,HP4,HB4⟩
       case measure=>simp [intOf];omega
    ·have hkk:((n:Int)+1==1)=true:=by simp at h1⊢;omega
     have hbw2:=hbw
     unfold A.where' A.dmask at hbw2
     rw [if_pos (by simp at h1;omega)]at hbw2
     have HX:=hid (show bits .and .u64 (bits .xor .u64 (if IntKind.u64.signed=true then-1 else IntKind.u64.max) (U (S.all c))) 72057594037927680=U bw by rw [A.xor_if,A.and_mid,hbw2])
     clear hbw hbw2 h1
     go_wp2_with (first
      |((with_reducible refine zh rfl _ rfl ?_);refine⟨_,_,rfl,HPr,?_⟩)
      |(go_at_call 197;refine(HA _).mono ?_;rintro e w2 ⟨rfl,hb2⟩;have HO2:=hid (zq HOw hb2);have HP2:=hid (HPr.below hb2);have HB2:=hid (za HBr hb2);clear hb2)
      |(go_at_call 129;rw [HX.out];refine(HLs _ (HT _ HB2)).mono ?_;rintro e w3 ⟨v3,rfl,hown3,hb3⟩;have HO3:=hid (zq HO2 hb3);have HP3:=hid (HP2.below hb3);have HB3:=hid (za HB2 hb3);have HI3:=hid hown3;obtain⟨ao,cap,rfl,hcap,hcm,_⟩:=zD hown3;clear hown3 hb3))
     have HN:=hid (And.intro hn hbl)
     have HLA:=hid hlA
     clear hn hbl c78 hk1 hlA
     obtain⟨LB,hLB⟩:∃LB,B.list bw=LB:=⟨_,rfl⟩
     rw [hLB]at HI3 hL64 hLm HS2⊢
     have HLm:=hid hLm
     clear hLB hLm
     go_loopw [3,42] (fun x i wq=>∃j:Nat,j≤LB.length∧i= .int .i64 (j:Int)∧wq.ownsRow (w.heap.size+1) 47 5 x (LA++(LB.take j).map (A.dmv (n+1))).length (M.cells (LA++(LB.take j).map (A.dmv (n+1))))∧wq.ownsRow (w.heap.size+1) 3 1 (.slice ao LB.length cap) LB.length (B.ints LB)∧PosAt wq w.heap.size c∧Below w.heap.size w wq) (fun _ i _=>LB.length-(intOf i).toNat)
     case atStart=>exact⟨0,Nat.zero_le _,rfl,by rw [List.take_zero,List.map_nil,List.append_nil];exact HO3.out,zbs HI3 (by have:=HP2.lt;omega),HP3,HB3⟩
     case round=>
      obtain⟨j,hj,rfl,hown,hk,hp,hbr⟩:=hrel
      by_cases hlj:j<LB.length
      ·obtain⟨s,hs⟩:∃s,LB[j]? =some s:=⟨LB[j],List.getElem?_eq_getElem hlj⟩
       have hs64:=HLm j s hs
       have HTk:=hid (zdQ LB j s hs)
       have hlen:(LA++(LB.take j).map (A.dmv (n+1))).length≤400:=by have:=A.dall_len c t n;have:=HLA.out;simp;omega
       obtain⟨ao2,cap2,e2,hcap2,hcm2,hao2⟩:=zD hk
       cases e2
       obtain⟨kb,rfl,hkb1,hkb2,hcell⟩:=hao2 om
       have hc1:=hcell j _ (ints_at LB j s hs)
       have w8:=i8_sq s hs64
       have HK:=hid hk
       have HJ:=hid hj
       clear hao2 hcell hs hk hj
       go_wp2_with (at_builtin;refine wpList_append_own_at _ rfl _ _ 39 rfl (w.heap.size+1) 47 i0 (.agg #[.int .i8 0,.int .i8 0,.int .u8 0,.int .u8 0,.bool false]) 5 5 underlying39 hi hz0 hz1 hz2 rfl dc _ _ _ rfl (hown.alloc _) ⟨_,0,none⟩ 1 1 (M.cell (A.dmv (n+1) s)) rfl rfl (zfv (RowAt.newAt wr (M.cell (A.dmv (n+1) s)).toArray 47 _ (by first|rfl|simp))) (zfP _) (by unfold maxLen;omega) om (by simp;omega) ?_;intro v' w4 hown4 hgrow _ hat)
       have hj2:=HJ.out
       go_roundw
       case measure=>simp [intOf];omega
       refine⟨j+1,by omega,by go_num,?_,?_,?_,?_⟩
       ·rw [HTk.out,List.map_append,←List.append_assoc,List.length_append,List.map_cons,List.map_nil,M.cells_snoc];exact hown4
       ·exact(HK.alloc _).kept hgrow (.inr (fun e=>owns_ne hown HK dc kb e.symm rfl))
       ·exact(hp.alloc _).grown hgrow (fun q hq=>by have:=(hown.lt q hq).1;omega)
       ·exact(hbr.alloc hbr.size _).grown hgrow (by simp;have:=hbr.size;omega) (fun q hq=>by have:=(hown.lt q hq).1;omega)
      ·obtain rfl:j=LB.length:=by omega
       rw [List.take_length]at hown
       have HO4:=hid hown
       have HP4:=hid hp
       have HB4:=hid hbr
       clear hown hk hp hbr hj
       go_wp2
       have hn2:=HN.1
       go_roundw
       case rel=>exact⟨n+1,by omega,by go_num,by rw [HS2.out];exact HO4.out,HP4,HB4⟩
       case measure=>simp [intOf];omega
   ·have HS2:=hid (show A.dall c t (n+1)=LA by rw [hst];unfold A.drowP;rw [if_pos (by simpa using hz),List.append_nil])
    have HOw:=hid hown
    have HPr:=hid hp
    have HBr:=hid hbr
    clear hown hp hbr hst
    go_wp2
    go_roundw
    case rel=>exact⟨n+1,by omega,by go_num,by rw [HS2.out];exact HOw.out,HPr,HBr⟩
    case measure=>simp [intOf];omega
  ·obtain rfl:n=5:=by omega
   go_wp2
   rw [Exit.noGoto_ret]
   go_ret
   exact⟨_,rfl,zbs hown om,hbr⟩
end Go.Proofs.YtbakeajgolhkgaaGreatDoor
