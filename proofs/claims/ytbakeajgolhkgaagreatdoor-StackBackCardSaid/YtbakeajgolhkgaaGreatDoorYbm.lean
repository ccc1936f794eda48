import Derived.Test.YtbakeajgolhkgaaGreatDoorYbl
set_option maxRecDepth 100000
set_option maxHeartbeats 8000000
open Go.Lib (hid)
namespace Go.Proofs.YtbakeajgolhkgaaGreatDoor
open Go.Proofs.Tryz
open Go.RowKit Go.Sort
attribute [local go_sem] Oper.semAt_some
theorem zep(w:World):cB 41 #[.int .u8 0] w (.tuple #[.agg (posC Sk.w0),.bool true]):=zfz 0 w dc
namespace Sk
theorem tx_e2e5:Ps.Txt 101 50 101 53 12 36:=⟨by decide,by decide,by decide,by decide,by decide,by decide⟩
theorem tx_e2e4:Ps.Txt 101 50 101 52 12 28:=⟨by decide,by decide,by decide,by decide,by decide,by decide⟩
theorem tx_f2f3:Ps.Txt 102 50 102 51 13 21:=⟨by decide,by decide,by decide,by decide,by decide,by decide⟩
theorem tx_e7e5:Ps.Txt 101 55 101 53 52 36:=⟨by decide,by decide,by decide,by decide,by decide,by decide⟩
theorem tx_g2g4:Ps.Txt 103 50 103 52 14 30:=⟨by decide,by decide,by decide,by decide,by decide,by decide⟩
theorem tx_d8h4:Ps.Txt 100 56 104 52 59 31:=⟨by decide,by decide,by decide,by decide,by decide,by decide⟩
theorem tx_a2a3:Ps.Txt 97 50 97 51 8 16:=⟨by decide,by decide,by decide,by decide,by decide,by decide⟩
end Sk
theorem zd5(w:World)(hT:Tb w):cB 35 #[] w (.bool true):=by
 have HT:Hid (∀W,Below w.heap.size w W→Tb W):=hid (fun W hb=>zi hT hb)
 clear hT
 have HN:Hid (∀W,w.heap.size≤W.heap.size→Calls prog 12 #[.agg (posC Sk.w0)] W fun e w'=>∃g,e= .returned (.pointer (some ⟨g,0,none⟩))∧Sk.On w.heap.size w' g 0 Sk.w0∧Below W.heap.size W w'):=hid (fun W h=>zdS Sk.w0 W Sk.w0_ok h)
 have M0:Hid (∀W g,Below w.heap.size w W→Sk.On w.heap.size W g 0 Sk.w0→cB 78 #[.pointer (some ⟨g,0,none⟩),.string ⟨#[101,50,101,53]⟩] W (.int .i64 170)):=hid (fun W g hb h=>zf6 h dc (HT.out _ hb) hb.size 170 (.inr ⟨rfl,Sk.w0_out.1,Sk.w0_out.2.1⟩) (fun W=>za3 Sk.w0 (f:=12) (g:=36) Sk.w0_std Sk.tx_e2e5 dc W))
 have M1:Hid (∀W g,Below w.heap.size w W→Sk.On w.heap.size W g 0 Sk.w0→cR 78 #[.pointer (some ⟨g,0,none⟩),.string ⟨#[101,50,101,52]⟩] W (.int .i64 0) fun w'=>Sk.On2 w.heap.size w' g 0 Sk.w0 (G.next Sk.w0 (12,28,0,0,false))∧Sk.Kg w.heap.size W w'):=hid (fun W g hb h=>zb9 h dc (HT.out _ hb) hb.size Sk.w0_out.1 Sk.w0_out.2.2.1 (fun W=>za3 Sk.w0 (f:=12) (g:=28) Sk.w0_std Sk.tx_e2e4 dc W))
 have M2:Hid (∀W g,Below w.heap.size w W→Sk.On w.heap.size W g 0 Sk.w0→cR 78 #[.pointer (some ⟨g,0,none⟩),.string ⟨#[102,50,102,51]⟩] W (.int .i64 0) fun w'=>Sk.On2 w.heap.size w' g 0 Sk.w0 Sk.w1∧Sk.Kg w.heap.size W w'):=hid (fun W g hb h=>zb9 h dc (HT.out _ hb) hb.size Sk.w0_out.1 Sk.w0_out.2.2.2 (fun W=>za3 Sk.w0 (f:=13) (g:=21) Sk.w0_std Sk.tx_f2f3 dc W))
 have M3:Hid (∀W g,Below w.heap.size w W→Sk.On w.heap.size W g 1 Sk.w1→cR 78 #[.pointer (some ⟨g,0,none⟩),.string ⟨#[101,55,101,53]⟩] W (.int .i64 0) fun w'=>Sk.On2 w.heap.size w' g 1 Sk.w1 Sk.w2∧Sk.Kg w.heap.size W w'):=hid (fun W g hb h=>zb9 h dc (HT.out _ hb) hb.size Sk.w1_out.1 Sk.w1_out.2 (fun W=>zds Sk.w1 (f:=52) (g:=36) Sk.w1_std Sk.tx_e7e5 dc W))
 have M4:Hid (∀W g,Below w.heap.size w W→Sk.On w.heap.size W g 2 Sk.w2→cR 78 #[.pointer (some ⟨g,0,none⟩),.string ⟨#[103,50,103,52]⟩] W (.int .i64 0) fun w'=>Sk.On2 w.heap.size w' g 2 Sk.w2 Sk.w3∧Sk.Kg w.heap.size W w'):=hid (fun W g hb h=>zb9 h dc (HT.out _ hb) hb.size Sk.w2_out.1 Sk.w2_out.2 (fun W=>za3 Sk.w2 (f:=14) (g:=30) Sk.w2_std Sk.tx_g2g4 dc W))
 have M5:Hid (∀W g,Below w.heap.size w W→Sk.On w.heap.size W g 3 Sk.w3→cR 78 #[.pointer (some ⟨g,0,none⟩),.string ⟨#[100,56,104,52]⟩] W (.int .i64 0) fun w'=>Sk.On2 w.heap.size w' g 3 Sk.w3 Sk.w4∧Sk.Kg w.heap.size W w'):=hid (fun W g hb h=>zb9 h dc (HT.out _ hb) hb.size Sk.w3_out.1 Sk.w3_out.2 (fun W=>zds Sk.w3 (f:=59) (g:=31) Sk.w3_std Sk.tx_d8h4 dc W))
 have M6:Hid (∀W g,Below w.heap.size w W→Sk.On w.heap.size W g 4 Sk.w4→cB 78 #[.pointer (some ⟨g,0,none⟩),.string ⟨#[97,50,97,51]⟩] W (.int .i64 190)):=hid (fun W g hb h=>zf6 h dc (HT.out _ hb) hb.size 190 (.inl ⟨rfl,Sk.w4_out⟩) (fun W=>za3 Sk.w4 (f:=8) (g:=16) Sk.w4_std Sk.tx_a2a3 dc W))
 go_enter func35,ntmps35
 go_upto_region 7 with(first
  |(go_at_call 41;(with_reducible refine(zep _).mono ?_);rintro e w1 ⟨rfl,hb1⟩;have B1:=hid hb1;clear hb1)
  |((with_reducible refine zn rfl _ _ rfl ?_);refine⟨w1.heap.size,Sk.w0,rfl,(by first|rfl|kernel_rfl),⟨_,heap_alloc_new _ _,kr⟩,?_⟩;intro W2 hP2 hq2;have B2:=hid (hP2.below (B1.out.alloc B1.out.size _) B1.out.size);clear hP2)
  |((with_reducible refine ze rfl _ rfl ?_);refine⟨w1.heap.size,Sk.w0,rfl,hq2,?_⟩)
  |(go_at_call 12;(with_reducible refine(HN.out _ B2.out.size).mono ?_);rintro e w3 ⟨g,rfl,hg,hb⟩;have G3:=hid hg;have B3:=hid (za B2.out hb);have Q3:=hid (hq2.below hb);clear hg hb hq2)
  |(go_at_call 78;(with_reducible refine(M0.out _ g B4.out G4.out).mono ?_);rintro e w5 ⟨rfl,hb⟩;have G5:=hid (G4.out.below hb);have B5:=hid (za B4.out hb);have Q5:=hid (Q4.out.below hb);clear hb)
  |(go_at_call 78;(with_reducible refine(M1.out _ g B5.out G5.out).mono ?_);rintro e w6 ⟨rfl,hg,hk⟩;have G6:=hid hg;have B6:=hid (Sk.Kg.next B5.out hk (Nat.le_refl _));have Q6:=hid (hk.pos Q5.out);clear hg hk)
  |(go_at_call 21;(with_reducible refine(zbz G6.out.on).mono ?_);rintro e w7 ⟨rfl,rfl⟩;have G7:=hid G6.out)
  |(go_at_call 14;(with_reducible refine(zeR G7.out dc).mono ?_);rintro e w8 ⟨rfl,hg,hk⟩;have G8:=hid hg;have B8:=hid (Sk.Kg.next B6.out hk (Nat.le_refl _));have Q8:=hid (hk.pos Q6.out);clear hg hk)
  |(go_at_call 14;(with_reducible refine(zib G3.out).mono ?_);rintro e w4 ⟨rfl,hb⟩;have G4:=hid (G3.out.below hb);have B4:=hid (za B3.out hb);have Q4:=hid (Q3.out.below hb);clear hb))
 have hp8:=Q8.out
 have hl8:=hp8.lt
 have HPo:Hid (∀W,Below w8.heap.size w8 W→cB 18 #[.pointer (some ⟨g,0,none⟩)] W (.agg (posC Sk.w0))):=hid (fun W hb=>zbI (G8.out.below hb))
 refine rB ?_
 try simp only [Act.put]
 repeat(first
  |(go_big_quiet_want;refine zL _ rfl ⟨_,_,rfl,hp8,?_⟩;simp only [Act.put,sA,sB,sC];go_big_quiet_on)
  |(go_big_quiet_want;refine zea _ _ _ rfl ⟨Sk.w0,Sk.w0,Sk.w0_ok,Sk.w0_ok,rfl,rfl,?_⟩;rw [zah];simp only [Act.put,sA,sB,sC];go_big_quiet_on)
  |go_big_quiet_step (first|(go_at_call 18;exact zd (HPo.out _ (below_regrown _ _ _)))))
 refine wpQuiet_nil ?_
 intro w9 hb9
 have G9:=hid (G8.out.below hb9)
 have B9:=hid (za B8.out hb9)
 clear hb9 hp8 hl8
 go_wp2_with (first
  |(go_at_call 78;(with_reducible refine(M2.out _ g B9.out G9.out).mono ?_);rintro e w10 ⟨rfl,hg,hk⟩;have G10:=hid hg;have B10:=hid (Sk.Kg.next B9.out hk (Nat.le_refl _));clear hg hk)
  |(go_at_call 78;(with_reducible refine(M3.out _ g B10.out G10.out.on).mono ?_);rintro e w11 ⟨rfl,hg,hk⟩;have G11:=hid hg;have B11:=hid (Sk.Kg.next B10.out hk (Nat.le_refl _));clear hg hk)
  |(go_at_call 78;(with_reducible refine(M4.out _ g B11.out G11.out.on).mono ?_);rintro e w12 ⟨rfl,hg,hk⟩;have G12:=hid hg;have B12:=hid (Sk.Kg.next B11.out hk (Nat.le_refl _));clear hg hk)
  |(go_at_call 78;(with_reducible refine(M5.out _ g B12.out G12.out.on).mono ?_);rintro e w13 ⟨rfl,hg,hk⟩;have G13:=hid hg;have B13:=hid (Sk.Kg.next B12.out hk (Nat.le_refl _));clear hg hk)
  |(go_at_call 78;(with_reducible refine(M6.out _ g B13.out G13.out.on).mono ?_);rintro e w14 ⟨rfl,hb⟩;have G14:=hid (G13.out.below hb);have B14:=hid (za B13.out hb);clear hb)
  |(go_at_call 21;(with_reducible refine(zbz G14.out.on).mono ?_);rintro e w15 ⟨rfl,rfl⟩))
 go_ret
 exact⟨rfl,B14.out⟩
end Go.Proofs.YtbakeajgolhkgaaGreatDoor
