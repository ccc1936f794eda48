
import Derived.Test.YtbakeajgolhkgaaGreatDoorYbm
import Derived.Test.YtbakeajgolhkgaaGreatDoorYbn
import Derived.Test.YtbakeajgolhkgaaGreatDoorYap
import Derived.Test.YtbakeajgolhkgaaGreatDoorYbb
import Derived.Test.YtbakeajgolhkgaaGreatDoorZc
set_option maxRecDepth 100000
set_option maxHeartbeats 8000000
open Go.Lib (hid)
namespace Go.Proofs.YtbakeajgolhkgaaGreatDoor
open Go.RowKit Go.Sort
attribute [local go_sem] Oper.semAt_some
structure Sk.Rd (w : World) (pb qb mb : Nat) (c q : Nat → Int) (m : Mv) (W : World) : Prop where
 p : PosAt W pb c
 q : PosAt W qb q
 m : RowAt W mb 47 (M.cell m).toArray
 b : Below w.heap.size w W
theorem Sk.Rd.kg {w : World} {pb qb mb : Nat} {c q : Nat → Int} {m : Mv} {W W' : World} (h : Sk.Rd w pb qb mb c q m W) (k : Sk.Kg w.heap.size W W') : Sk.Rd w pb qb mb c q m W' :=
 ⟨k.pos h.p,k.pos h.q,k.mv h.m,Sk.Kg.next h.b k (Nat.le_refl _)⟩
theorem Sk.Rd.below {w : World} {pb qb mb : Nat} {c q : Nat → Int} {m : Mv} {W W' : World} (h : Sk.Rd w pb qb mb c q m W) (k : Below W.heap.size W W') : Sk.Rd w pb qb mb c q m W':=h.kg (Sk.Kg.of_below _ k)
theorem Sk.row_mR {W : World} {mb : Nat} {m : Mv} {T : TypeId} (h : RowAt W mb T (M.cell m).toArray) : W.rangeAt mb 0 (M.cell m):=fun j v hv=>by
 rw [Nat.zero_add,h.cell j]
 simpa using hv
theorem Sk.Rd.mR {w : World} {pb qb mb : Nat} {c q : Nat → Int} {m : Mv} {W : World} (h : Sk.Rd w pb qb mb c q m W) : W.rangeAt mb 0 (M.cell m):=Sk.row_mR h.m
theorem Sk.one_mv (m : Mv) : (M.cell m).toArray.all (·.oneCell') = true:=by kernel_rfl
theorem Sk.size_mv' (m : Mv) : (Tryz.prog.info? 47).map (·.size) = some (M.cell m).toArray.size:=by kernel_rfl
theorem zgV (c : Nat → Int) (n t : Int) (w : World) (hc : PosOk c) (hT : Tb w) :
  Calls Tryz.prog 7 #[.agg (posC c),.int .i64 n,.int .i64 t] w fun e w'=>e = .returned (.bool true) ∧ Below w.heap.size w w':=by
 have hp0:=PosAt.new w c
 have hb0 : Below w.heap.size w (w.alloc (.cells (posC c) 31)):=(Below.refl _ _).alloc (Nat.le_refl _) _
 have HT : Hid (∀ W,Below w.heap.size w W → Tb W):=hid (fun W hb=>zi hT hb)
 have HAw : Hid (∀ W,Below w.heap.size w W → Calls Tryz.prog 35 #[] W fun e w'=>e = .returned (.bool true) ∧ Below W.heap.size W w'):=hid (fun W hb=>zd5 W (HT.out W hb))
 have HNw : Hid (∀ W,Below w.heap.size w W → Calls Tryz.prog 12 #[.agg (posC c)] W fun e w' => ∃ g,e = .returned (.pointer (some ⟨g,0,none⟩)) ∧ Sk.On w.heap.size w' g 0 c ∧ Below W.heap.size W w'):=hid (fun W h=>zdS c W hc h.size)
 have HPk : Hid (∀ W,Below w.heap.size w W → Calls Tryz.prog 37 #[.agg (posC c),.int .i64 n] W fun e w'=>e = .returned (.tuple #[.agg (M.cell (Sk.nth c n)).toArray,.bool (Sk.some' c)]) ∧ Below W.heap.size W w'):=hid (fun W h=>zhg c n W hc (HT.out W h))
 have HIn:=hid (fun h=>Sk.nth_in (c:=c) n h)
 have HOc:=hid hc
 obtain ⟨m,hm⟩ : ∃ m,Sk.nth c n = m:=⟨_,rfl⟩
 obtain ⟨ok,hok⟩ : ∃ x,Sk.some' c = x:=⟨_,rfl⟩
 rw [hm,hok] at HPk HIn
 clear hm hok hT hc
 obtain ⟨f',t',p',d',ca'⟩:=m
 have HLn : Hid (∀ W g k,Sk.On w.heap.size W g k c → Calls Tryz.prog 21 #[.pointer (some ⟨g,0,none⟩)] W fun e w'=>e = .returned (.int .i64 (k : Int)) ∧ Below W.heap.size W w'):=hid (fun W g k h=>(zbz h).mono fun _ _ ⟨h1,h2⟩=>⟨h1,by rw [← h2];exact Below.refl _ _⟩)
 have HPo : Hid (∀ W g k,Sk.On w.heap.size W g k c → Calls Tryz.prog 18 #[.pointer (some ⟨g,0,none⟩)] W fun e w'=>e = .returned (.agg (posC c)) ∧ Below W.heap.size W w'):=hid (fun W g k h=>zbI h)
 by_cases ht : t < 0 ∨ 200 < t
 ·have d1 : decide (t < 0) = true ∨ (decide (t < 0) = false ∧ decide (200 < t) = true):=by simp;omega
  clear HIn HLn HPo
  rcases d1 with d1 | ⟨d1,d2⟩
  all_goals
   go_enter Tryz.func7,Tryz.ntmps7
   go_wp2_with (first
    | (go_at_call 35;(with_reducible refine (HAw.out _ hb0).mono ?_);rintro e w1 ⟨rfl,hb⟩;have B1:=hid (za hb0 hb);clear hb))
   go_ret
   exact ⟨rfl,B1.out⟩
 have d1 : decide (t < 0) = false:=by simp;omega
 have d2 : decide (200 < t) = false:=by simp;omega
 obtain ⟨N,rfl⟩ : ∃ N : Nat,t = (N : Int):=⟨t.toNat,by omega⟩
 have hN : N ≤ 200:=by omega
 clear ht
 go_enter Tryz.func7,Tryz.ntmps7
 go_upto_region 7 with (first
  | (go_at_call 35;(with_reducible refine (HAw.out _ hb0).mono ?_);rintro e w1 ⟨rfl,hb⟩;have B1:=hid (za hb0 hb);have Q1:=hid (hp0.below hb);clear hb)
  | (go_at_call 12;(with_reducible refine (HNw.out _ B1.out).mono ?_);rintro e w2 ⟨g,rfl,hg,hb⟩;have B2:=hid (za B1.out hb);have Q2:=hid (Q1.out.below hb);have G2:=hid hg;clear hb hg)
  | (go_at_call 37;(with_reducible refine (HPk.out _ B2.out).mono ?_);rintro e w3 ⟨rfl,hb⟩;have B3:=hid (za B2.out hb);have Q3:=hid (Q2.out.below hb);have G3:=hid (G2.out.below hb);clear hb)
  | ((with_reducible refine ze rfl _ rfl ?_);refine ⟨_,c,rfl,Q2.out,?_⟩)
  | ((with_reducible refine ze rfl _ rfl ?_);refine ⟨_,c,rfl,Q1.out,?_⟩)
  | ((with_reducible refine zb rfl 47 _ _ rfl ?_);refine ⟨w3.heap.size,47,(M.cell (f',t',p',d',ca')).toArray,rfl,rfl,⟨_,heap_alloc_new _ _,(by kernel_rfl)⟩,Sk.size_mv' _,Sk.one_mv _,?_⟩;intro W4 hP4 hr4;have B4:=hid (hP4.below (B3.out.alloc B3.out.size _) B3.out.size);have hX:=hP4.below ((Below.refl w3.heap.size w3).alloc (Nat.le_refl _) _) (Nat.le_refl _);have Q4:=hid (Q3.out.below hX);have G4:=hid (G3.out.below hX);have R4:=hid hr4;clear hX hP4 hr4))
 obtain ⟨mb,hmb⟩ : ∃ x,w3.heap.size = x:=⟨_,rfl⟩
 obtain ⟨pb,hpb⟩ : ∃ x,w.heap.size = x:=⟨_,rfl⟩
 rw [hmb] at R4 ⊢
 rw [hpb] at Q4
 clear B1 B2 B3 Q1 Q2 Q3 G2 G3 HPk HNw HAw hp0 hb0 hmb
 cases ok
 ·have hp4:=Q4.out
  have hl4:=hp4.lt
  have hp5:=hp4
  rw [← hpb] at hp5
  have hl5:=hp5.lt
  have hOn : ∀ W,Below W4.heap.size W4 W → Sk.On w.heap.size W g 0 c:=fun W h=>G4.out.below h
  have HOn:=hid hOn
  clear hOn hpb
  go_upto_region 8 with fail
  refine rB ?_
  try simp only [Act.put]
  repeat (first
   | (go_big_quiet_want;refine zL _ rfl ⟨_,_,rfl,hp4,?_⟩;simp only [Act.put,sA,sB,sC];go_big_quiet_on)
   | (go_big_quiet_want;refine zL _ rfl ⟨_,_,rfl,hp5,?_⟩;simp only [Act.put,sA,sB,sC];go_big_quiet_on)
   | (go_big_quiet_want;refine zcx _ _ _ rfl ⟨c,c,HOc.out,HOc.out,rfl,rfl,?_⟩;rw [zah];simp only [Act.put,sA,sB,sC];go_big_quiet_on)
   | go_big_quiet_step (first
    | (go_at_call 21;exact zd (HLn.out _ g 0 (HOn.out _ (below_regrown _ _ _))))
    | (go_at_call 18;exact zd (HPo.out _ g 0 (HOn.out _ (below_regrown _ _ _))))))
  refine wpQuiet_nil ?_
  intro w9 hb9
  have B9:=hid (za B4.out hb9)
  clear hb9 hp4 hl4 hp5 hl5
  go_wp2
  go_ret
  exact ⟨rfl,B9.out⟩
 by_cases ho : (G.outcome c).1 = 0
 ·have HMk : Hid (∀ W g,Below w.heap.size w W → Sk.On w.heap.size W g 0 c → Calls Tryz.prog 15 #[.pointer (some ⟨g,0,none⟩),.agg (M.cell (f',t',p',d',ca')).toArray] W fun e w'=>e = .returned (.int .i64 0) ∧ Sk.On2 w.heap.size w' g 0 c (G.next c (f',t',p',d',ca')) ∧ Sk.Kg w.heap.size W w'):=hid (fun W g hb h=>zgl _ h (by decide) (HT.out W hb) hb.size ho (HIn.out rfl))
  clear HIn HLn HPo HT ho
  obtain ⟨q,hq⟩ : ∃ q,G.next c (f',t',p',d',ca') = q:=⟨_,rfl⟩
  rw [hq] at HMk
  clear hq
  replace HMk:=hid (fun W=>HMk.out W g)
  have HUn : Hid (∀ W,Sk.On2 w.heap.size W g 0 c q → Calls Tryz.prog 14 #[.pointer (some ⟨g,0,none⟩)] W fun e w'=>e = .returned (.int .i64 0) ∧ Sk.On w.heap.size w' g 0 c ∧ Sk.Kg w.heap.size W w'):=hid (fun W h=>zeR h (by decide))
  have HPc : Hid (∀ W,Sk.On w.heap.size W g 0 c → Calls Tryz.prog 18 #[.pointer (some ⟨g,0,none⟩)] W fun e w'=>e = .returned (.agg (posC c)) ∧ Below W.heap.size W w'):=hid (fun W h=>zbI h)
  have HPq : Hid (∀ W,Sk.On2 w.heap.size W g 0 c q → Calls Tryz.prog 18 #[.pointer (some ⟨g,0,none⟩)] W fun e w'=>e = .returned (.agg (posC q)) ∧ Below W.heap.size W w'):=hid (fun W h=>zbI h.on)
  have HKq : Hid (∀ W,Sk.On2 w.heap.size W g 0 c q → Calls Tryz.prog 19 #[.pointer (some ⟨g,0,none⟩)] W fun e w'=>e = .returned (.int .u64 (U (H.key q))) ∧ Below W.heap.size W w'):=hid (fun W h=>zgX h.on (by decide))
  have HLq : Hid (∀ W,Sk.On2 w.heap.size W g 0 c q → Calls Tryz.prog 21 #[.pointer (some ⟨g,0,none⟩)] W fun e w'=>e = .returned (.int .i64 1) ∧ W = w'):=hid (fun W h=>zbz h.on)
  obtain ⟨ky,hky⟩ : ∃ x,U (H.key q) = x:=⟨_,rfl⟩
  rw [hky] at HKq
  clear hky
  go_upto_region 9 with (first
   | ((with_reducible refine zs rfl 47 _ rfl Tryz.underlying47 rfl ?_);refine ⟨_,_,_,rfl,R4.out,Sk.size_mv' _,?_⟩)
   | (go_at_call 15;(with_reducible refine (HMk.out _ B4.out G4.out).mono ?_);rintro e w5 ⟨rfl,hg,hk⟩;have G5:=hid hg;have B5:=hid (Sk.Kg.next B4.out hk (Nat.le_refl _));have Q5:=hid (hk.pos Q4.out);have R5:=hid (hk.mv R4.out);clear hg hk))
  have HOq : Hid (PosOk q):=hid G5.out.on.ok
  have HOc:=HOc
  go_upto_region 10 with (first
   | (go_at_call 18;(with_reducible refine (HPq.out _ G5.out).mono ?_);rintro e w6 ⟨rfl,hb⟩;have G6:=hid (G5.out.below hb);have B6:=hid (za B5.out hb);have Q6:=hid (Q5.out.below hb);have R6:=hid (R5.out.below hb);clear hb)
   | (go_at_call 19;(with_reducible refine (HKq.out _ G6.out).mono ?_);rintro e w7 ⟨rfl,hb⟩;have G7:=hid (G6.out.below hb);have B7:=hid (za B6.out hb);have Q7:=hid (Q6.out.below hb);have R7:=hid (R6.out.below hb);clear hb)
   | ((with_reducible refine zn rfl _ _ rfl ?_);refine ⟨w7.heap.size,q,rfl,(by first | rfl | kernel_rfl),⟨_,heap_alloc_new _ _,(by kernel_rfl)⟩,?_⟩;intro W8 hP8 hq8;have hX:=hP8.below ((Below.refl w7.heap.size w7).alloc (Nat.le_refl _) _) (Nat.le_refl _);have B8:=za B7.out hX;have Q8:=Q7.out.below hX;have G8:=hid (G7.out.below hX);have R8:=R7.out.below hX;have HS8:=hid (show Sk.Rd w pb w7.heap.size mb c q (f',t',p',d',ca') W8 from ⟨Q8,hq8,R8,B8⟩);clear hX hP8 hq8 B8 Q8 R8))
  obtain ⟨qb,hqb⟩ : ∃ x,w7.heap.size = x:=⟨_,rfl⟩
  rw [hqb] at HS8 ⊢
  clear hqb hpb G4 G5 G6 G7 B4 B5 B6 B7 Q4 Q5 Q6 Q7 R4 R5 R6 R7
  go_wp2
  go_loopw [12] (fun vi wr => ∃ k : Nat,k ≤ N ∧ vi = .int .i64 (k : Int) ∧ Sk.On2 w.heap.size wr g 0 c q ∧ Sk.Rd w pb qb mb c q (f',t',p',d',ca') wr) (fun vi _=>N - (intOf vi).toNat)
  case atStart=>exact ⟨0,by omega,rfl,G8.out,HS8.out⟩
  case round =>
   obtain ⟨k,hk,rfl,hGr,hSr⟩:=hrel
   have HGr:=hid hGr
   have HSr:=hid hSr
   clear hGr hSr
   by_cases hlt : k < N
   ·go_upto_region 13 with fail
    refine wp_region_held (S:=Sk.Rd w pb qb mb c q (f',t',p',d',ca')) (by kernel_rfl) ?_
    have hS0:=HSr.out.below (M.below_drew (Below.refl wr.heap.size wr) 1)
    have hG0:=HGr.out.below (M.below_drew (Below.refl wr.heap.size wr) 1)
    show wpAnyH _ _ _ _ _ _ _ _ wr.drew
    refine tP 0 55 (.pointer (some ⟨g,0,none⟩)) hS0 ?_
    simp only [Act.put,sA,sB,sC]
    refine tC 1 (some 56) 14 (#[.pointer (some ⟨g,0,none⟩)]) (.int .i64 0) (fun W=>Sk.On w.heap.size W g 0 c ∧ Sk.Kg w.heap.size wr.drew W) (HUn.out _ hG0) (fun u1 hR => ?_)
    simp only [Act.put,sA,sB,sC]
    have hS1:=hS0.kg hR.2
    have hG1:=hR.1
    clear hR
    refine ⟨hS1,?_⟩
    refine tP 2 57 (.bool false) hS1 ?_
    simp only [Act.put,sA,sB,sC]
    refine tP 3 58 (.bool false) hS1 ?_
    simp only [Act.put,sA,sB,sC]
    refine tP 4 59 (.pointer (some ⟨g,0,none⟩)) hS1 ?_
    simp only [Act.put,sA,sB,sC]
    refine tD 6 (some 61) (.agg (posC c)) (yieldsIf_load_mid (by kernel_rfl) 31 (.tmp 3) (by kernel_rfl) pb 0 (by kernel_rfl) (posL c) _ (fun _ h=>A.posR h.p) Tryz.underlying31 rfl (A.posL_info c)) hS1 ?_
    simp only [Act.put,sA,sB,sC]
    refine tC 5 (some 60) 18 (#[.pointer (some ⟨g,0,none⟩)]) (.agg (posC c)) (fun W=>Below u1.heap.size u1 W) (HPc.out _ hG1) (fun u2 hR => ?_)
    simp only [Act.put,sA,sB,sC]
    have hS2:=hS1.below hR
    have hG2:=hG1.below hR
    clear hR
    refine ⟨hS2,?_⟩
    refine tD 7 (some 62) (.bool false) (zo (v0 := .bool (!samePos c c)) (by kernel_rfl) (fun w9=>zaT _ _ (.tmp 60) (.tmp 61) 31 c c w9 HOc.out HOc.out (by kernel_rfl) (by kernel_rfl) (by kernel_rfl)) (by rw [zah];rfl)) hS2 ?_
    simp only [Act.put,sA,sB,sC]
    refine tP 8 63 (.bool false) hS2 ?_
    simp only [Act.put,sA,sB,sC]
    refine tP 9 64 (.bool false) hS2 ?_
    simp only [Act.put,sA,sB,sC]
    refine tP 10 65 (.pointer (some ⟨g,0,none⟩)) hS2 ?_
    simp only [Act.put,sA,sB,sC]
    refine tD 11 (some 66) (.agg (M.cell (f',t',p',d',ca')).toArray) (yieldsIf_load_mid (by kernel_rfl) 47 (.tmp 8) (by kernel_rfl) mb 0 (by kernel_rfl) (M.cell (f',t',p',d',ca')) _ (fun _ h=>h.mR) Tryz.underlying47 rfl (Lg.size_mv _ rfl)) hS2 ?_
    simp only [Act.put,sA,sB,sC]
    refine tC 12 (some 67) 15 (#[.pointer (some ⟨g,0,none⟩),.agg (M.cell (f',t',p',d',ca')).toArray]) (.int .i64 0) (fun W=>Sk.On2 w.heap.size W g 0 c q ∧ Sk.Kg w.heap.size u2 W) (HMk.out _ hS2.b hG2) (fun u3 hR => ?_)
    simp only [Act.put,sA,sB,sC]
    have hS3:=hS2.kg hR.2
    have hG3:=hR.1
    clear hR
    refine ⟨hS3,?_⟩
    refine tP 13 68 (.bool false) hS3 ?_
    simp only [Act.put,sA,sB,sC]
    refine tP 14 69 (.bool false) hS3 ?_
    simp only [Act.put,sA,sB,sC]
    refine tP 15 70 (.bool false) hS3 ?_
    simp only [Act.put,sA,sB,sC]
    refine tP 16 71 (.pointer (some ⟨g,0,none⟩)) hS3 ?_
    simp only [Act.put,sA,sB,sC]
    refine tD 18 (some 73) (.agg (posC q)) (yieldsIf_load_mid (by kernel_rfl) 31 (.tmp 10) (by kernel_rfl) qb 0 (by kernel_rfl) (posL q) _ (fun _ h=>A.posR h.q) Tryz.underlying31 rfl (A.posL_info q)) hS3 ?_
    simp only [Act.put,sA,sB,sC]
    refine tC 17 (some 72) 18 (#[.pointer (some ⟨g,0,none⟩)]) (.agg (posC q)) (fun W=>Below u3.heap.size u3 W) (HPq.out _ hG3) (fun u4 hR => ?_)
    simp only [Act.put,sA,sB,sC]
    have hS4:=hS3.below hR
    have hG4:=hG3.below hR
    clear hR
    refine ⟨hS4,?_⟩
    refine tD 19 (some 74) (.bool false) (zo (v0 := .bool (!samePos q q)) (by kernel_rfl) (fun w9=>zaT _ _ (.tmp 72) (.tmp 73) 31 q q w9 HOq.out HOq.out (by kernel_rfl) (by kernel_rfl) (by kernel_rfl)) (by rw [zah];rfl)) hS4 ?_
    simp only [Act.put,sA,sB,sC]
    refine tP 20 75 (.bool false) hS4 ?_
    simp only [Act.put,sA,sB,sC]
    refine tP 21 76 (.bool false) hS4 ?_
    simp only [Act.put,sA,sB,sC]
    refine tP 22 77 (.pointer (some ⟨g,0,none⟩)) hS4 ?_
    simp only [Act.put,sA,sB,sC]
    refine tP 24 79 (.int .u64 ky) hS4 ?_
    simp only [Act.put,sA,sB,sC]
    refine tC 23 (some 78) 19 (#[.pointer (some ⟨g,0,none⟩)]) (.int .u64 ky) (fun W=>Below u4.heap.size u4 W) (HKq.out _ hG4) (fun u5 hR => ?_)
    simp only [Act.put,sA,sB,sC]
    have hS5:=hS4.below hR
    have hG5:=hG4.below hR
    clear hR
    refine ⟨hS5,?_⟩
    refine tD 25 (some 80) (.bool false) (zo (v0 := .bool (ky != ky)) (by kernel_rfl) (fun _=>by kernel_rfl) (by rw [bne_self_eq_false])) hS5 ?_
    simp only [Act.put,sA,sB,sC]
    refine tP 26 81 (.bool false) hS5 ?_
    simp only [Act.put,sA,sB,sC]
    refine wpAnyH_done (by kernel_rfl) ?_ _
    have HSn:=hid hS5
    have HGn:=hid hG5
    go_wp2
    exact ⟨⟨k + 1,by omega,by go_num,HGn.out,HSn.out⟩,by simp [intOf];omega⟩
   ·obtain rfl : k = N:=by omega
    go_wp2_with (first
     | (go_at_call 21;(with_reducible refine (HLq.out _ HGr.out).mono ?_);rintro e w1 ⟨rfl,rfl⟩)
     | (go_at_call 14;(with_reducible refine (HUn.out _ HGr.out).mono ?_);rintro e w2 ⟨rfl,hg,hk⟩;have G2:=hid hg;have B2:=hid (Sk.Kg.next HSr.out.b hk (Nat.le_refl _));clear hg hk)
     | (go_at_call 14;(with_reducible refine (zib G2.out).mono ?_);rintro e w3 ⟨rfl,hb⟩;have B3:=hid (za B2.out hb);clear hb))
    go_ret
    exact ⟨rfl,B3.out⟩
 ·have HMk : Hid (∀ W,Below w.heap.size w W → Sk.On w.heap.size W g 0 c → Calls Tryz.prog 15 #[.pointer (some ⟨g,0,none⟩),.agg (M.cell (f',t',p',d',ca')).toArray] W fun e w'=>e = .returned (.int .i64 190) ∧ Below W.heap.size W w'):=hid (fun W hb h=>by have:=zfN (f',t',p',d',ca') h (by decide) (HT.out W hb) hb.size (.inl ho);rwa [if_neg ho] at this)
  clear HIn HT ho
  go_upto_region 8 with (first
   | ((with_reducible refine zs rfl 47 _ rfl Tryz.underlying47 rfl ?_);refine ⟨_,_,_,rfl,R4.out,Sk.size_mv' _,?_⟩)
   | (go_at_call 15;(with_reducible refine (HMk.out _ B4.out G4.out).mono ?_);rintro e w5 ⟨rfl,hb⟩;have G5:=hid (G4.out.below hb);have B5:=hid (za B4.out hb);have Q5:=hid (Q4.out.below hb);clear hb))
  have hp4:=Q5.out
  have hl4:=hp4.lt
  have hp5:=hp4
  rw [← hpb] at hp5
  have hl5:=hp5.lt
  have hOn : ∀ W,Below w5.heap.size w5 W → Sk.On w.heap.size W g 0 c:=fun W h=>G5.out.below h
  have HOn:=hid hOn
  clear hOn hpb
  refine rB ?_
  try simp only [Act.put]
  repeat (first
   | (go_big_quiet_want;refine zL _ rfl ⟨_,_,rfl,hp4,?_⟩;simp only [Act.put,sA,sB,sC];go_big_quiet_on)
   | (go_big_quiet_want;refine zL _ rfl ⟨_,_,rfl,hp5,?_⟩;simp only [Act.put,sA,sB,sC];go_big_quiet_on)
   | (go_big_quiet_want;refine zcx _ _ _ rfl ⟨c,c,HOc.out,HOc.out,rfl,rfl,?_⟩;rw [zah];simp only [Act.put,sA,sB,sC];go_big_quiet_on)
   | go_big_quiet_step (first
    | (go_at_call 21;exact zd (HLn.out _ g 0 (HOn.out _ (below_regrown _ _ _))))
    | (go_at_call 18;exact zd (HPo.out _ g 0 (HOn.out _ (below_regrown _ _ _))))))
  refine wpQuiet_nil ?_
  intro w9 hb9
  have B9:=hid (za B5.out hb9)
  clear hb9 hp4 hl4 hp5 hl5
  go_wp2
  go_ret
  exact ⟨rfl,B9.out⟩
end Go.Proofs.YtbakeajgolhkgaaGreatDoor
