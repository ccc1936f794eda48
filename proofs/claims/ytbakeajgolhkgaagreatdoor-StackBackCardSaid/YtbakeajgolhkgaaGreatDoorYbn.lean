import Derived.Test.YtbakeajgolhkgaaGreatDoorYbl
set_option maxRecDepth 100000
set_option maxHeartbeats 8000000
open Go.Lib (hid)
namespace Go.Proofs.YtbakeajgolhkgaaGreatDoor
open Go.Proofs.Tryz
open Go.RowKit Go.Sort
attribute [local go_sem] Oper.semAt_some
namespace Sk
def ix(c:Nat→Int)(n:Int):Nat:=(IntKind.u64.wrap n).toNat % (G.list c).length
def nth(c:Nat→Int)(n:Int):Mv:=(G.list c).getD (ix c n) (0,0,0,0,false)
def some'(c:Nat→Int):Bool:= !(G.list c).isEmpty
theorem nth_in{c:Nat→Int}(n:Int)(h:some' c=true):nth c n∈G.list c:=by
 unfold some' at h
 have hl:0<(G.list c).length:=by
  cases hL:G.list c with
  |nil=>rw [hL]at h;cases h
  |cons a l=>simp
 unfold nth ix
 rw [List.getD_eq_getElem?_getD,List.getElem?_eq_getElem (Nat.mod_lt _ hl),Option.getD_some]
 exact List.getElem_mem _
theorem nth_at{c:Nat→Int}(n:Int)(h:0<(G.list c).length):(G.list c)[ix c n]? =some (nth c n):=by
 unfold nth ix
 rw [List.getD_eq_getElem?_getD,List.getElem?_eq_getElem (Nat.mod_lt _ h),Option.getD_some]
theorem nth_none{c:Nat→Int}(n:Int)(h:(G.list c).length=0):nth c n=(0,0,0,0,false)∧some' c=false:=by
 have e:G.list c=[]:=List.eq_nil_of_length_eq_zero h
 constructor
 ·unfold nth;rw [e];rfl
 ·unfold some';rw [e];rfl
end Sk
theorem zhg(c:Nat→Int)(n:Int)(w:World)(hc:PosOk c)(hT:Tb w):cB 37 #[.agg (posC c),.int .i64 n] w (.tuple #[.agg (M.cell (Sk.nth c n)).toArray,.bool (Sk.some' c)]):=by
 have h0:=MvRes.start w c
 have hb0:Below w.heap.size w ((w.alloc (.cells (posC c) 31)).alloc (.cells #[.int .i8 0,.int .i8 0,.int .u8 0,.int .u8 0,.bool false] 47)):=h0.below
 have HL:Hid (∀W,Below w.heap.size w W→Calls prog 13 #[.agg (posC c)] W fun e w'=>∃v,e= .returned v∧M.Reads w' v (G.list c)∧Below W.heap.size W w'):=hid (fun W h=>zcd c W hc (zi hT h))
 have hbd:=zf4 c hc
 have H0:=hid h0
 have HB0:=hid hb0
 have hN:=hid (fun h=>Sk.nth_none (c:=c) n h)
 have hA:=hid (fun h=>Sk.nth_at (c:=c) n h)
 have hI:Hid (Sk.ix c n=(IntKind.u64.wrap n).toNat % (G.list c).length):=hid rfl
 have hS:Hid (0<(G.list c).length→Sk.some' c=true):=hid (fun h=>by unfold Sk.some';cases hL:G.list c with|nil=>rw [hL]at h;exact absurd h dc|cons a l=>rfl)
 obtain⟨m,hm⟩:∃m,Sk.nth c n=m:=⟨_,rfl⟩
 obtain⟨ok,hok⟩:∃x,Sk.some' c=x:=⟨_,rfl⟩
 obtain⟨L,hL⟩:∃L,G.list c=L:=⟨_,rfl⟩
 obtain⟨i,hi⟩:∃i,Sk.ix c n=i:=⟨_,rfl⟩
 rw [hm,hok,hL]at hN
 rw [hm,hL,hi]at hA
 rw [hi,hL]at hI
 rw [hok,hL]at hS
 rw [hm,hok]
 rw [hL]at HL hbd
 clear hm hok hL hi h0 hb0 hc hT
 go_enter func37,ntmps37
 go_upto_region 2 with(first
  |((with_reducible refine ze rfl _ rfl ?_);refine⟨_,c,rfl,H0.p,?_⟩)
  |(go_at_call 13;(with_reducible refine(HL.out _ HB0.out).mono ?_);rintro e w2 ⟨v,rfl,hr,hb⟩;have H2:=hid (H0.next hb);have HB2:=hid (za HB0 hb);have hr2:=hid hr;clear hb hr))
 obtain⟨ao,cap,rfl,h1,h2,h3,h4⟩:=hr2.out
 obtain⟨q,hq⟩:∃q,L.length=q:=⟨_,rfl⟩
 rw [hq]at h1 h3 h4 hbd hN hA hI hS⊢
 clear hr2
 by_cases hq0:q=0
 ·obtain⟨rfl,rfl⟩:=hN.out hq0
  clear h3 h4 hA hI hS hN hq
  subst hq0
  go_wp2_with ((with_reducible refine zb rfl 47 _ _ rfl ?_);refine⟨w.heap.size+1,47,movC 0 0 0 0 false,rfl,rfl,⟨_,H2.res.heap,kr⟩,info_mvB _ _ _ _ _,one_mvB _ _ _ _ _,?_⟩;intro W9 hP9 hq9;have HB:=hid (hP9.below HB2 om))
  exact bodyPost_ret (zv results37 _ _ (w.heap.size+1) 47 _ (0,0) _ rfl hq9.heap underlying47 rfl (info_mvB _ _ _ _ _)) rfl ⟨rfl,HB⟩
 ·obtain⟨b,off,rfl,hbl,hcell⟩:=h4 om
  have hx:=hA.out om
  have hat:M.At w2 b (off+i*5) m:=fun j u hu=>by
   have hh:=hcell (i*5+j) u (M.cells_at L i m hx j u hu)
   rw [Nat.add_assoc]
   exact hh
  obtain rfl:=hS.out om
  have hI2:=hI.out
  have hlt:i<q:=by rw [hI2];exact Nat.mod_lt _ om
  obtain⟨u,hu⟩:∃u,IntKind.u64.wrap n=u:=⟨_,rfl⟩
  have hu0:0≤u∧u<18446744073709551616:=by rw [←hu,IntKind.wrap_u64];omega
  rw [hu]at hI2
  have k1:IntKind.u64.wrap (q:Int)=(q:Int):=by rw [IntKind.wrap_u64];omega
  have k2:u.tmod (q:Int)=(i:Int):=by rw [Int.tmod_eq_emod_of_nonneg hu0.1,hI2,Int.natCast_emod,Int.toNat_of_nonneg hu0.1]
  have k3:IntKind.u64.wrap (i:Int)=(i:Int):=by rw [IntKind.wrap_u64];omega
  have k4:IntKind.i64.wrap (i:Int)=(i:Int):=by rw [IntKind.wrap_i64];omega
  have k5:((q:Int)==0)=false:=by rw [beq_eq_false_iff_ne];omega
  have k6:¬(q:Int)=0:=by omega
  have hlt2:(i:Int)<(q:Int):=by omega
  have Hat:=hid hat
  clear h3 h4 hA hI hS hN hx hcell hat hI2 hu0
  obtain⟨f',t',p',d',c'⟩:=m
  go_wp2_with (first
   |(refine wpList_load_mid rfl 47 _ rfl b (off+i*5) rfl (M.cell (f',t',p',d',c')) _ Hat underlying47 rfl (Lg.size_mv _ rfl) ?_)
   |((with_reducible refine zb rfl 47 _ _ rfl ?_);refine⟨w.heap.size+1,47,movC f' t' p' d' c',rfl,rfl,⟨_,H2.res.heap,kr⟩,info_mvB _ _ _ _ _,one_mvB _ _ _ _ _,?_⟩;intro W9 hP9 hq9;have HB:=hid (hP9.below HB2 om)))
  exact bodyPost_ret (zv results37 _ _ (w.heap.size+1) 47 _ (0,0) _ rfl hq9.heap underlying47 rfl (info_mvB _ _ _ _ _)) rfl ⟨rfl,HB⟩
end Go.Proofs.YtbakeajgolhkgaaGreatDoor
