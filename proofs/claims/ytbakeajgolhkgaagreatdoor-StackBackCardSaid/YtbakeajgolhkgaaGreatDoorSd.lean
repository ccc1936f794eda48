import Derived.Test.YtbakeajgolhkgaaGreatDoorSc
import Derived.Test.YtbakeajgolhkgaaGreatDoorYbm
import Derived.Test.YtbakeajgolhkgaaGreatDoorZl
set_option maxRecDepth 100000
set_option maxHeartbeats 8000000
open Go.Lib (hid)
namespace Go.Proofs.YtbakeajgolhkgaaGreatDoor
open Go.Proofs.Tryz
open Go.RowKit Go.Sort
attribute [local go_sem] Oper.semAt_some
theorem Sk.Ply.step{base:Nat}{w0 w:World}{g:Nat}{c:Nat→Int}{x:Nat→Int}{k:Nat}{s':Sk.St}(h:Sk.Ply base w0 w g (Sk.st0 c) 0 x k s'){i:Nat}(hi:i<k):s'.mv i∈G.list (s'.pos i)∧s'.pos (i+1)=G.next (s'.pos i) (s'.mv i):=by
 have e1:s'.pos i=Sk.run c x i:=by have:=h.new i om;rwa [Nat.zero_add]at this
 have e2:s'.pos (i+1)=Sk.run c x (i+1):=by have:=h.new (i+1) om;rwa [Nat.zero_add]at this
 have e3:s'.mv i=Sk.nth (Sk.run c x i) (x i):=by have:=h.newm i hi;rwa [Nat.zero_add]at this
 have hcan:=h.may i hi
 unfold Sk.can at hcan
 rw [Bool.and_eq_true]at hcan
 rw [e1,e2,e3]
 exact⟨Sk.nth_in (c:=Sk.run c x i) (x i) hcan.1,rfl⟩
theorem Sk.Ply.first{base:Nat}{w0 w:World}{g:Nat}{c:Nat→Int}{x:Nat→Int}{k:Nat}{s':Sk.St}(h:Sk.Ply base w0 w g (Sk.st0 c) 0 x k s'):s'.pos 0=c:=h.old 0 (Nat.le_refl _)
theorem Sk.Ply.at0{base:Nat}{w0 w:World}{g:Nat}{c:Nat→Int}{x:Nat→Int}{k:Nat}{s':Sk.St}(h:Sk.Ply base w0 w g (Sk.st0 c) 0 x k s'):Sk.At base w g s' k:=Nat.zero_add k▸h.at'
theorem Sk.keysA_get(s:Sk.St)(n i:Nat)(hi:i≤n):(Sk.keysA s n)[i]? =some (.int .u64 (U (H.key (s.pos i)))):=by
 cases i with
 |zero=>rfl
 |succ i=>
  unfold Sk.keysA Sk.keysC
  rw [List.getElem?_cons_succ,List.getElem?_map,List.getElem?_range om]
  rfl
theorem Sk.rangeB{w W:World}{b o:Nat}{cs:List Value}(h:w.rangeAt b o cs)(hb:Below w.heap.size w W):W.rangeAt b o cs:=fun j v hj=>by
 have h1:=h j v hj
 exact(World.cell?_of_block (hb.block b (World.block_lt_of_cell? w _ h1))).trans h1
theorem Sk.own_mvs{base:Nat}{w:World}{s:Sk.St}{n cap b:Nat}(h:w.ownsRow base 47 5 (.slice (some ⟨b,0,none⟩) n cap) n (Sk.movesC s n)){i:Nat}(hi:i<n):w.rangeAt b (i*5) (M.cell (s.mv i)):=fun j v hj=>
 Sk.own_at h (i*5+j) v ((Sk.row_get (fun i=>M.cell (s.mv i)) 5 (fun _=>rfl) hi (List.getElem?_eq_some_iff.1 hj).1).trans hj)
theorem Sk.exec_ixm{ev:Operand→Value}{o:Oper}(x y:Operand){b n cap m:Nat}(ho:o.op= .indexAddr 39 x y)(hx:ev x= .slice (some ⟨b,0,none⟩) n cap)(hy:ev y= .int .i64 (m:Int))(w:World)(hm:m<n):(execOp ev o).run prog w= .ok (.value (.pointer (some ⟨b,m*5,none⟩))) w:=by
 unfold execOp
 simp only [ho,hx,hy]
 have e1:(0:Int)≤(m:Int):=by omega
 have e2:(m:Int)<(n:Int):=by omega
 simp [go_sem,e1,e2]
theorem stackKeys_walk(c:Nat→Int)(N:Nat)(x:Nat→Int)(v:Value)(w:World)(hc:PosOk c)(hv:Sk.Ints w.heap.size w v N x)(hT:Tb w):
  cB 9 #[.agg (posC c),v] w (.bool true):=by
 have hp0:=PosAt.new w c
 have hb0:Below w.heap.size w (w.alloc (.cells (posC c) 31)):=bA
 have HT:Hid (∀W,Below w.heap.size w W→Tb W):=hid (fun W hb=>zi hT hb)
 have HAw:Hid (∀W,Below w.heap.size w W→cB 35 #[] W (.bool true)):=hid (fun W hb=>zd5 W (HT W hb))
 have HNw:Hid (∀W,Below w.heap.size w W→Calls prog 12 #[.agg (posC c)] W fun e w'=>∃g,e= .returned (.pointer (some ⟨g,0,none⟩))∧Sk.At w.heap.size w' g (Sk.st0 c) 0∧Below W.heap.size W w'):=hid (fun W h=>zhX w.heap.size c W hc h.size)
 have HPl:N≤20→Hid (∀g W,Below w.heap.size w W→Sk.At w.heap.size W g (Sk.st0 c) 0→Calls prog 36 #[.pointer (some ⟨g,0,none⟩),v] W (Sk.PlayEnd w.heap.size g (Sk.st0 c) 0 x N W)):=fun h20=>hid (fun g W hb h=>play_any w.heap.size W g (Sk.st0 c) 0 N x v h (hv.below hb) om (fun W' h'=>HT W' (hb.trans h')) hb.size)
 obtain⟨ao,cap,rfl,_,_,_,_⟩:=hv
 clear hT hc
 by_cases h20:20<N
 ·have d1:decide ((20:Int)<(N:Int))=true:=by simp;omega
  clear HPl
  go_enter func9,ntmps9
  go_wp2_with (first
   |(go_at_call 35;(with_reducible refine(HAw.out _ hb0).mono ?_);rintro e w1 ⟨rfl,hb⟩;have B1:=hid (za hb0 hb);clear hb))
  go_ret
  exact⟨rfl,B1⟩
 have d1:decide ((20:Int)<(N:Int))=false:=by simp;omega
 replace HPl:=HPl om
 have HN:=hid (show N≤20 by omega)
 clear h20
 go_enter func9,ntmps9
 go_upto_region 7 with(first
  |(go_at_call 35;(with_reducible refine(HAw.out _ hb0).mono ?_);rintro e w1 ⟨rfl,hb⟩;have B1:=hid (za hb0 hb);have Q1:=hid (hp0.below hb);clear hb)
  |((with_reducible refine ze rfl _ rfl ?_);refine⟨_,c,rfl,Q1,?_⟩)
  |(go_at_call 12;(with_reducible refine(HNw.out _ B1.out).mono ?_);rintro e w2 ⟨g,rfl,hg,hb⟩;have B2:=hid (za B1 hb);have Q2:=hid (Q1.below hb);have G2:=hid hg;clear hb hg)
  |(go_at_call 36;(with_reducible refine(HPl.out g _ B2.out G2.out).mono ?_);rintro e w3 ⟨k,s',rfl,hk,_,hply⟩;have B3:=hid (Sk.Kg.next B2 hply.kg (Nat.le_refl _));have Q3:=hid (hply.kg.pos Q2);have HPy:=hid hply;have HK:=hid (show k≤20 by have:=HN.out;omega);clear hply hk))
 clear B1 B2 Q1 Q2 G2 HPl HNw HAw hp0 hb0 HN
 have A3:=hid HPy.at0
 have HStep:=hid (fun i (hi:i<k)=>HPy.step hi)
 have hs0:s'.pos 0=c:=HPy.first
 have HOk:=hid (fun i (hi:i≤k)=>A3.ok i hi)
 clear HPy
 go_upto_region 8 with(first
  |(go_at_call 38;(with_reducible refine(gpositions_any w.heap.size _ g s' k A3.out (by have:=HK.out;omega)).mono ?_);rintro e w4 ⟨v4,rfl,ho,hb⟩;obtain⟨ba,capA,rfl⟩:=ownsRow_succ ho;have O4:=hid ho;have A4:=hid (A3.below hb);have B4:=hid (za B3 hb);have Q4:=hid (Q3.below hb);clear hb ho)
  |(go_at_call 39;(with_reducible refine(gkeys_any w.heap.size _ g s' k A4.out (by have:=HK.out;omega)).mono ?_);rintro e w5 ⟨v5,rfl,ho,hb⟩;obtain⟨bk,capK,rfl⟩:=ownsRow_succ ho;have K5:=hid ho;have O5:=hid (zq O4 hb);have A5:=hid (A4.below hb);have B5:=hid (za B4 hb);have Q5:=hid (Q4.below hb);clear hb ho)
  |(go_at_call 40;(with_reducible refine(gmoves_any w.heap.size _ g s' k A5.out (by have:=HK.out;omega)).mono ?_);rintro e w6 ⟨v6,rfl,ho,hb⟩;obtain⟨am,capM,rfl⟩:=Sk.own_slice ho;have M6:=hid ho;have K6:=hid (zq K5 hb);have O6:=hid (zq O5 hb);have A6:=hid (A5.below hb);have B6:=hid (za B5 hb);have Q6:=hid (Q5.below hb);clear hb ho))
 have HPs:=hid (fun W (hb:Below w6.heap.size w6 W) i (hi:i≤k)=>show W.rangeAt ba (i*88) (posL (s'.pos i))from Sk.rangeB (Sk.own_ps O6 (Nat.lt_succ_of_le hi)) hb)
 have HKs:=hid (fun W (hb:Below w6.heap.size w6 W) i (hi:i≤k)=>show W.cell? ⟨bk,i,none⟩=some (.int .u64 (U (H.key (s'.pos i))))from by
  have h1:=Sk.own_at K6 i _ (Sk.keysA_get s' k i hi)
  exact(World.cell?_of_block (hb.block bk (World.block_lt_of_cell? w6 _ h1))).trans h1)
 have HMs:=hid (fun W (hb:Below w6.heap.size w6 W) i (hi:i<k)=>show∃bm,am=some ⟨bm,0,none⟩∧W.rangeAt bm (i*5) (M.cell (s'.mv i))from by
  obtain⟨bm,rfl,_⟩:=Sk.own_cells M6 om
  exact⟨bm,rfl,Sk.rangeB (Sk.own_mvs M6 hi) hb⟩)
 have HKy:=hid (fun W i (hi:i≤k)=>zhD (s'.pos i) W (HOk i hi))
 have HGp:=hid (fun W (hb:Below w6.heap.size w6 W)=>zey w.heap.size W g s' k (A6.below hb))
 have HGk:=hid (fun W (hb:Below w6.heap.size w6 W)=>zc1 w.heap.size W g s' k (A6.below hb) (by have:=HK.out;omega))
 have HBw:=hid (fun W (hb:Below w6.heap.size w6 W)=>za B6 hb)
 have hk1:wrap64 ((k:Int)+1)=(k:Int)+1:=by have:=HK.out;simp only [wrap64];omega
 have hq6:=Q6.out
 have hlq:=hq6.lt
 have hz1:(0:Int)<(k:Int)+1:=by omega
 have h0:=HPs w6 (Below.refl _ _) 0 (Nat.zero_le _)
 have hla:ba<w6.heap.size:=(O6.lt ba rfl).2
 have hlk:bk<w6.heap.size:=(K6.lt bk rfl).2
 rw [hs0,Nat.zero_mul]at h0
 have HOc:Hid (PosOk c):=hid (hs0▸HOk 0 (Nat.zero_le _))
 clear A3 A4 A5 O4 O5 K5 B3 B4 B5 Q3 Q4 Q5 O6 K6 M6
 go_upto_region 8 with fail
 refine rB ?_
 try simp only [Act.put]
 repeat(first
  |(go_big_quiet_want;with_reducible refine zm 31 _ rfl underlying31 rfl ⟨_,_,posL c,rfl,h0,A.posL_info _,?_⟩;simp only [Act.put,sA,sB,sC];go_big_quiet_on)
  |(go_big_quiet_want;refine zL _ rfl ⟨_,_,rfl,hq6,?_⟩;simp only [Act.put,sA,sB,sC];go_big_quiet_on)
  |(go_big_quiet_want;refine zea _ _ _ rfl ⟨c,c,HOc,HOc,rfl,rfl,?_⟩;rw [zah];simp only [Act.put,sA,sB,sC];go_big_quiet_on)
  |go_big_quiet_step (fail))
 refine wpQuiet_nil ?_
 intro w7 hb7
 have B7:=hid hb7
 clear hb7 hq6 hlq h0 hk1 hz1 Q6 hs0
 go_wp2
 go_loopw [10,11,12] (fun vi _ _ wr=>∃i:Nat,i≤k+1∧vi= .int .i64 (i:Int)∧Hid (Below w6.heap.size w6 wr)) (fun vi _ _ _=>k+1-(intOf vi).toNat)
 case atStart=>exact⟨0,Nat.zero_le _,rfl,B7⟩
 case round=>
  obtain⟨i,hi,rfl,HB⟩:=hrel
  by_cases hle:i≤k
  ·have hle2:(i:Int)≤(k:Int):=by omega
   have hi0:(0:Int)≤(i:Int):=by omega
   have hi1:(i:Int)<(k:Int)+1:=by omega
   have hp:=HPs wr HB i hle
   have hky:=HKs wr HB i hle
   have Hky:=hid (fun W=>HKy W i hle)
   have hwl:=HB.size
   have HBi:=hid (HBw wr HB)
   obtain⟨p,hpp⟩:∃p,s'.pos i=p:=⟨_,rfl⟩
   rw [hpp]at hp hky Hky
   have HOp:Hid (PosOk p):=hid (hpp▸HOk i hle)
   obtain⟨ky,hkk⟩:∃y,U (H.key p)=y:=⟨_,rfl⟩
   rw [hkk]at hky Hky
   have Hpp:=hid hpp
   have hla2:ba<wr.heap.size:=by omega
   have hlk2:bk<wr.heap.size:=by omega
   clear hkk hpp
   go_upto_region 13 with fail
   refine rB ?_
   try simp only [Act.put]
   repeat(first
    |(go_big_quiet_want;with_reducible refine zm 31 _ rfl underlying31 rfl ⟨_,_,posL p,rfl,hp,A.posL_info _,?_⟩;simp only [Act.put,sA,sB,sC];go_big_quiet_on)
    |go_big_quiet_step (first
     |(go_at_call 20;exact zd (Hky _))))
   refine wpQuiet_nil ?_
   intro w8 hb8
   have HB8:=hid (HB.trans (hb8.mono HB.size))
   clear hb8 hp hky Hky
   by_cases hlt:i<k
   ·have hlt2:decide ((i:Int)<(k:Int))=true:=by simp;omega
    obtain⟨bm,rfl,hm⟩:=HMs w8 HB8 i hlt
    have hp:=HPs w8 HB8 i hle
    have Hn:=hid (fun W hb=>HPs W hb (i+1) hlt)
    obtain⟨hin,hnx⟩:=HStep i hlt
    rw [Hpp.out]at hp hin hnx
    have Hm:=hid (fun W (hb:Below w8.heap.size w8 W)=>Sk.rangeB hm hb)
    have Hp:=hid (fun W (hb:Below w8.heap.size w8 W)=>Sk.rangeB hp hb)
    obtain⟨m,hmm⟩:∃m,s'.mv i=m:=⟨_,rfl⟩
    rw [hmm]at hin hnx Hm
    obtain⟨q,hqq⟩:∃q,s'.pos (i+1)=q:=⟨_,rfl⟩
    rw [hqq]at hnx Hn
    have HOq:Hid (PosOk q):=hid (hqq▸HOk (i+1) hlt)
    have HAf:Hid (∀W,Below w8.heap.size w8 W→cB 17 #[.agg (posC p),.agg (M.cell m).toArray] W (.tuple #[.agg (posC q),.bool true])):=hid (fun W hb=>by
     rw [hnx]
     exact zdb p m W HOp (HT W (HBw W (HB8.trans (hb.mono HB8.size)))) (G.list_sub hin))
    have HIs:Hid (∀W,Below w8.heap.size w8 W→cB 27 #[.agg (posC p),.agg (M.cell m).toArray] W (.bool true)):=hid (fun W hb=>by
     have:=ziQ p m W HOp (HT W (HBw W (HB8.trans (hb.mono HB8.size))))
     rwa [decide_eq_true hin]at this)
    have HL8:=hid (show ba<w8.heap.size∧bm<w8.heap.size from⟨by have:=HB8.size;omega,World.block_lt_of_cell? w8 _ (hm 0 _ rfl)⟩)
    clear hm hp hin hnx hmm hqq hle2 hi1 hwl
    have hik:i<k+1:=by omega
    go_upto_region 16 with fail
    refine wp_region_held (S:=fun W=>Below w8.heap.size w8 W) kr ?_
    have hS:Below w8.heap.size w8 w8.drew:=(Below.refl _ _).drew
    show wpAnyH _ _ _ _ _ _ _ _ w8.drew
    refine Sk.cut2 (F:=fun(qb:Nat) W=>Below w8.heap.size w8 W∧PosAt W qb q) (G:= ?G) ?rest ?main
    case main=>
     intro key
     refine tq 0 73 (.slice (some ⟨ba,0,none⟩) (k+1) capA) hS ?_
     refine tq 1 74 (.int .i64 (i:Int)) hS ?_
     refine te 2 (some 75) (.pointer (some ⟨ba,i*88,none⟩)) (zo (v0:= .pointer (some ⟨ba,i*88,none⟩)) kr (fun w9=>Sk.exec_ixp (.tmp 73) (.tmp 74) (n:=k+1) (cap:=capA) kr kr kr w9 hik) rfl) hS ?_
     refine te 3 (some 76) (.agg (posC p)) (yieldsIf_load_mid kr 31 (.tmp 75) kr ba (i*88) kr (posL p) _ (fun _ h=>Hp _ h) underlying31 rfl (A.posL_info p)) hS ?_
     refine tq 4 77 (.slice (some ⟨bm,0,none⟩) k capM) hS ?_
     refine tq 5 78 (.int .i64 (i:Int)) hS ?_
     refine te 6 (some 79) (.pointer (some ⟨bm,i*5,none⟩)) (zo (v0:= .pointer (some ⟨bm,i*5,none⟩)) kr (fun w9=>Sk.exec_ixm (.tmp 77) (.tmp 78) (n:=k) (cap:=capM) kr kr kr w9 hlt) rfl) hS ?_
     refine te 7 (some 80) (.agg (M.cell m).toArray) (yieldsIf_load_mid kr 47 (.tmp 79) kr bm (i*5) kr (M.cell m) _ (fun _ h=>Hm _ h) underlying47 rfl (A.cell_info m)) hS ?_
     refine wpAnyH_all (rs:=[8,12]) kr sp (fun z hz=> ?_)
     rcases(show z=8∨z=12 by simpa using hz)with rfl|rfl
     ·refine zaf 8 (some 81) 17 (#[.agg (posC p),.agg (M.cell m).toArray]) (.tuple #[.agg (posC q),.bool true]) (fun W=>Below w8.drew.heap.size w8.drew W) kr kr kr kr (HAf _ hS) (fun w4 hb4=> ?_)
      simp only [Act.put,sA,sB,sC]
      have hS4:Below w8.heap.size w8 w4:=hS.trans (hb4.mono hS.size)
      refine⟨hS4,?_⟩
      refine tq 9 72 (.tuple #[.agg (posC q),.bool true]) hS4 ?_
      refine tq 10 82 (.agg (posC q)) hS4 ?_
      refine tq 11 83 (.bool true) hS4 ?_
      refine wpAnyH_all (rs:=[12]) kr sp (fun j hj=> ?_)
      obtain rfl:j=12:=by simpa using hj
      clear hj
      refine zz 12 (some 11) (.pointer (some ⟨w4.heap.size,0,none⟩)) (w4.alloc (.cells zeroCells31 31)) kr kr kr kr ?_
      simp only [Act.put,sA,sB,sC]
      have hSa:Below w8.heap.size w8 (w4.alloc (.cells zeroCells31 31)):=hS4.alloc hS4.size _
      have hgr:=RowAt.new w4 zeroCells31 31
      have hle9:=hS4.size
      obtain⟨qb,hqb⟩:∃y,w4.heap.size=y:=⟨_,rfl⟩
      obtain⟨wa,hwa⟩:∃W,w4.alloc (.cells zeroCells31 31)=W:=⟨_,rfl⟩
      rw [hwa]at hSa hgr⊢
      rw [hqb]at hgr hle9⊢
      clear hwa hqb
      refine⟨hSa,?_⟩
      refine Sk.takeStore 13 31 (.tmp 11) (.tmp 82) qb 0 (posC q) kr kr kr kr kr kr kr (Sk.there_pos hgr kr) (zr q) (zaG q) ?_
      obtain⟨hS9,hq9⟩:=Sk.box_stored q hSa hgr kr hle9
      refine⟨hS9,?_⟩
      refine tq 14 12 (.bool true) hS9 ?_
      refine wpAnyH_done kr ?_ _
      obtain⟨w9,hw9⟩:∃W,(wa).setCells qb 0 (posC q).toList=W:=⟨_,rfl⟩
      rw [hw9]at hS9 hq9⊢
      exact key qb w9 ⟨hS9,hq9⟩
     ·refine zz 12 (some 11) (.pointer (some ⟨w8.drew.heap.size,0,none⟩)) (w8.drew.alloc (.cells zeroCells31 31)) kr kr kr kr ?_
      simp only [Act.put,sA,sB,sC]
      have hSa:Below w8.heap.size w8 (w8.drew.alloc (.cells zeroCells31 31)):=hS.alloc hS.size _
      have hgr:=RowAt.new w8.drew zeroCells31 31
      have hle9:=hS.size
      obtain⟨qb,hqb⟩:∃y,w8.drew.heap.size=y:=⟨_,rfl⟩
      obtain⟨wa,hwa⟩:∃W,w8.drew.alloc (.cells zeroCells31 31)=W:=⟨_,rfl⟩
      rw [hwa]at hSa hgr⊢
      rw [hqb]at hgr hle9⊢
      clear hwa hqb
      refine⟨hSa,?_⟩
      refine tf 8 (some 81) 17 (#[.agg (posC p),.agg (M.cell m).toArray]) (.tuple #[.agg (posC q),.bool true]) (fun W=>Below wa.heap.size wa W) (HAf _ hSa) (fun w4 hb4=> ?_)
      have hS4:Below w8.heap.size w8 w4:=hSa.trans (hb4.mono hSa.size)
      refine⟨hS4,?_⟩
      replace hgr:=hgr.below hb4
      refine tq 9 72 (.tuple #[.agg (posC q),.bool true]) hS4 ?_
      refine tq 10 82 (.agg (posC q)) hS4 ?_
      refine tq 11 83 (.bool true) hS4 ?_
      refine Sk.takeStore 13 31 (.tmp 11) (.tmp 82) qb 0 (posC q) kr kr kr kr kr kr kr (Sk.there_pos hgr kr) (zr q) (zaG q) ?_
      obtain⟨hS9,hq9⟩:=Sk.box_stored q hS4 hgr kr hle9
      refine⟨hS9,?_⟩
      refine tq 14 12 (.bool true) hS9 ?_
      refine wpAnyH_done kr ?_ _
      obtain⟨w9,hw9⟩:∃W,(w4).setCells qb 0 (posC q).toList=W:=⟨_,rfl⟩
      rw [hw9]at hS9 hq9⊢
      exact key qb w9 ⟨hS9,hq9⟩
    case rest=>
     rintro qb W4 ⟨hS4,hq4⟩
     have HB4:=hid (HB8.trans (hS4.mono HB8.size))
     have hp4:=Hp W4 hS4
     have hm4:=Hm W4 hS4
     have hn4:=Hn W4 HB4.out
     have HI4:=hid (fun W (hb:Below W4.heap.size W4 W)=>HIs W (hS4.trans (hb.mono hS4.size)))
     have hl1:ba<W4.heap.size:=by have:=HL8.out;have:=hS4.size;omega
     have hl2:bm<W4.heap.size:=by have:=HL8.out;have:=hS4.size;omega
     have hl3:=hq4.lt
     have hi3:(0:Int)≤(i:Int)+1:=by omega
     have hi4:(i:Int)+1<(k:Int)+1:=by omega
     have hi5:(i:Int)<(k:Int)+1:=by omega
     have hi6:(i:Int)<(k:Int):=by omega
     have hn5:W4.rangeAt ba (i*88+88) (posL q):=by rw [show i*88+88=(i+1)*88 by omega];exact hn4
     have hn6:W4.rangeAt ba (((i:Int)+1).toNat*88) (posL q):=by rw [show((i:Int)+1).toNat=i+1 by omega];exact hn4
     have hi2:wrap64 ((i:Int)+1)=(i:Int)+1:=by have:=HK.out;simp only [wrap64];omega
     clear hS hS4 Hp Hm Hn HAf HIs HL8
     go_upto_region 17 with fail
     refine rB ?_
     try simp only [Act.put]
     repeat(first
      |(go_big_quiet_want;with_reducible refine zm 31 _ rfl underlying31 rfl ⟨_,_,posL p,rfl,hp4,A.posL_info _,?_⟩;simp only [Act.put,sA,sB,sC];go_big_quiet_on)
      |(go_big_quiet_want;with_reducible refine zm 31 _ rfl underlying31 rfl ⟨_,_,posL q,rfl,hn4,A.posL_info _,?_⟩;simp only [Act.put,sA,sB,sC];go_big_quiet_on)
      |(go_big_quiet_want;with_reducible refine zm 31 _ rfl underlying31 rfl ⟨_,_,posL q,rfl,hn5,A.posL_info _,?_⟩;simp only [Act.put,sA,sB,sC];go_big_quiet_on)
      |(go_big_quiet_want;with_reducible refine zm 31 _ rfl underlying31 rfl ⟨_,_,posL q,rfl,hn6,A.posL_info _,?_⟩;simp only [Act.put,sA,sB,sC];go_big_quiet_on)
      |(go_big_quiet_want;refine zL _ rfl ⟨_,_,rfl,hq4,?_⟩;simp only [Act.put,sA,sB,sC];go_big_quiet_on)
      |(go_big_quiet_want;refine zm 47 _ rfl underlying47 rfl ⟨_,_,M.cell m,rfl,hm4,A.cell_info _,?_⟩;simp only [Act.put,sA,sB,sC];go_big_quiet_on)
      |(go_big_quiet_want;refine zea _ _ _ rfl ⟨q,q,HOq,HOq,rfl,rfl,?_⟩;rw [zah];simp only [Act.put,sA,sB,sC];go_big_quiet_on)
      |go_big_quiet_step (first
       |(go_at_call 27;exact zd (HI4 _ (below_regrown _ _ _)))))
     refine wpQuiet_nil ?_
     intro w9 hb9
     have HB9:=hid (HB4.trans (hb9.mono HB4.size))
     clear hb9 hp4 hm4 hn4 hn5 hn6 hq4 hl1 hl2 hl3 HI4
     go_wp2
     obtain⟨e1,e2⟩:=Sk.st_next (N:=k+1) (by have:=HK.out;omega) (Nat.lt_succ_of_le hle)
     exact⟨⟨i+1,Nat.succ_le_succ hle,congrArg _ e1,HB9⟩,e2⟩
   ·have hlt2:decide ((i:Int)<(k:Int))=false:=by simp;omega
    go_wp2
    obtain⟨e1,e2⟩:=Sk.st_next (N:=k+1) (by have:=HK.out;omega) (Nat.lt_succ_of_le hle)
    exact⟨⟨i+1,Nat.succ_le_succ hle,congrArg _ e1,HB8⟩,e2⟩
  ·have hle2:decide ((i:Int)≤(k:Int))=false:=by simp;omega
   have hp:=HPs wr HB k (Nat.le_refl _)
   have hky:=HKs wr HB k (Nat.le_refl _)
   have Hgp:=hid (fun W (hb:Below wr.heap.size wr W)=>HGp W (HB.trans (hb.mono HB.size)))
   have Hgk:=hid (fun W (hb:Below wr.heap.size wr W)=>HGk W (HB.trans (hb.mono HB.size)))
   have HOp:=hid (HOk k (Nat.le_refl _))
   obtain⟨p,hpp⟩:∃p,s'.pos k=p:=⟨_,rfl⟩
   rw [hpp]at hp hky Hgp Hgk HOp
   obtain⟨ky,hkk⟩:∃y,U (H.key p)=y:=⟨_,rfl⟩
   rw [hkk]at hky Hgk
   have hk0:(0:Int)≤(k:Int):=by omega
   have hk1:(k:Int)<(k:Int)+1:=by omega
   have hla2:ba<wr.heap.size:=by have:=HB.size;omega
   have hlk2:bk<wr.heap.size:=by have:=HB.size;omega
   clear hkk hpp
   go_upto_region 19 with fail
   refine rB ?_
   try simp only [Act.put]
   repeat(first
    |(go_big_quiet_want;with_reducible refine zm 31 _ rfl underlying31 rfl ⟨_,_,posL p,rfl,hp,A.posL_info _,?_⟩;simp only [Act.put,sA,sB,sC];go_big_quiet_on)
    |(go_big_quiet_want;refine zcx _ _ _ rfl ⟨p,p,HOp,HOp,rfl,rfl,?_⟩;rw [zah];simp only [Act.put,sA,sB,sC];go_big_quiet_on)
    |go_big_quiet_step (first
     |(go_at_call 19;exact zd (Hgk _ (below_regrown _ _ _)))
     |(go_at_call 18;exact zd (Hgp _ (below_regrown _ _ _)))))
   refine wpQuiet_nil ?_
   intro w9 hb9
   have B9:=hid (HBw _ (HB.trans (hb9.mono HB.size)))
   clear hb9 hp hky
   go_wp2
   go_ret
   exact⟨rfl,B9⟩
end Go.Proofs.YtbakeajgolhkgaaGreatDoor
