import Derived.Test.YtbakeajgolhkgaaGreatDoorSa
import Derived.Test.YtbakeajgolhkgaaGreatDoorZl
set_option maxRecDepth 100000
set_option maxHeartbeats 8000000
open Go.Lib (hid)
namespace Go.Proofs.YtbakeajgolhkgaaGreatDoor
open Go.Proofs.Tryz
open Go.RowKit Go.Sort
attribute [local go_sem] Oper.semAt_some
theorem Sk.size_step:(prog.info? 97).map (·.size)=some 7:=by kernel_rfl
theorem Sk.info_u64S:(prog.info? 23).map (fun i=>(i.zero,i.size,i.bytes))=some (some (.int .u64 0),1,8):=by kernel_rfl
theorem Sk.info_mvS:(prog.info? 47).map (fun i=>(i.zero,i.size,i.bytes))=some (some (.agg #[.int .i8 0,.int .i8 0,.int .u8 0,.int .u8 0,.bool false]),5,5):=by kernel_rfl
theorem Sk.stepL_oneA(m:Mv)(k:BitVec 64)(lb:Nat):(Sk.stepL m k lb).toArray.all (·.oneCell')=true:=by
 rw [Array.all_eq_true']
 intro x hx
 exact Sk.stepL_one m k lb x (by simpa using hx)
theorem Sk.stepL_5(m:Mv)(k:BitVec 64)(lb:Nat):(Sk.stepL m k lb).toArray[5]? =some (.int .u64 (U k)):=rfl
theorem Sk.own_step{base:Nat}{w:World}{s:Sk.St}{n cap b:Nat}(h:w.ownsRow base 97 7 (.slice (some ⟨b,0,none⟩) n cap) n (Sk.stepsC s n))(hn:0<n){W:World}(hb:Below w.heap.size w W){i:Nat}(hi:i<n):W.rangeAt b (i*7) (Sk.stepC s i):=fun j v hj=>by
 obtain⟨b',e,hc⟩:=Sk.own_cells h hn
 cases e
 have hj7:j<7:=(List.getElem?_eq_some_iff.1 hj).1
 have h1:=hc (i*7+j) v ((Sk.stepsC_get s hi hj7).trans hj)
 exact(World.cell?_of_block (hb.block b (World.block_lt_of_cell? w _ h1))).trans h1
def Sk.keysC(s:Sk.St)(n:Nat):List Value:=(List.range n).map fun i=> .int .u64 (U (H.key (s.pos (i+1))))
def Sk.movesC(s:Sk.St)(n:Nat):List Value:=(List.range n).flatMap fun i=>M.cell (s.mv i)
theorem Sk.keysC_succ(s:Sk.St)(n:Nat):Sk.keysC s (n+1)=Sk.keysC s n++[.int .u64 (U (H.key (s.pos (n+1))))]:=by unfold Sk.keysC;rw [List.range_succ,List.map_append];rfl
theorem Sk.movesC_succ(s:Sk.St)(n:Nat):Sk.movesC s (n+1)=Sk.movesC s n++M.cell (s.mv n):=by unfold Sk.movesC;rw [List.range_succ,List.flatMap_append,List.flatMap_cons,List.flatMap_nil,List.append_nil]
theorem Sk.cell_oneL(m:Mv):∀u∈M.cell m,u.oneCell'=true:=by
 intro u hu
 simp [M.cell]at hu
 rcases hu with rfl|rfl|rfl|rfl|rfl<;>rfl
theorem key1_any(m:Mv)(k:BitVec 64)(lb:Nat)(w:World):cB 82 #[.agg (Sk.stepL m k lb).toArray] w (.int .u64 (U k)):=by
 have hr:=(RowAt.new w (Sk.stepL m k lb).toArray 97).cell 5
 rw [Sk.stepL_5]at hr
 have hb:Below w.heap.size w (w.alloc (.cells (Sk.stepL m k lb).toArray 97)):=bA
 obtain⟨cs,hcs⟩:∃cs,(Sk.stepL m k lb).toArray=cs:=⟨_,rfl⟩
 rw [hcs]at hr hb⊢
 clear hcs
 go_enter func82,ntmps82
 go_wp2
 go_ret
 exact⟨rfl,hb⟩
theorem moves1_any(m:Mv)(k:BitVec 64)(lb:Nat)(w:World):cB 84 #[.agg (Sk.stepL m k lb).toArray] w (.agg (M.cell m).toArray):=by
 have hr:∀o,(w.alloc (.cells (Sk.stepL m k lb).toArray 97)).alloc o|>.rangeAt w.heap.size 0 (M.cell m):=fun o j v hj=>by
  have h5:j<5:=(List.getElem?_eq_some_iff.1 hj).1
  rw [Nat.zero_add]
  refine((RowAt.new w (Sk.stepL m k lb).toArray 97).alloc o|>.cell j).trans ?_
  rw [←hj]
  match j,h5 with
  |0,_|1,_|2,_|3,_|4,_=>rfl
 have hb:∀o,Below w.heap.size w ((w.alloc (.cells (Sk.stepL m k lb).toArray 97)).alloc o):=fun o=>bA.alloc (by rw [World.size_alloc];omega) o
 obtain⟨cs,hcs⟩:∃cs,(Sk.stepL m k lb).toArray=cs:=⟨_,rfl⟩
 rw [hcs]at hr hb⊢
 clear hcs
 go_enter func84,ntmps84
 go_wp2_with (first
  |(refine wpList_load_mid rfl 47 _ rfl w.heap.size 0 rfl (M.cell m) _ (hr _) underlying47 rfl (Lg.size_mv _ rfl) ?_)
  |((with_reducible refine zb rfl 47 _ _ rfl ?_);refine⟨w.heap.size+1,47,(M.cell m).toArray,rfl,rfl,⟨_,(by first|exact heap_alloc_new _ _|(have:=World.alloc_heap_new (w.alloc (.cells cs 97)) (.cells #[.int .i8 0,.int .i8 0,.int .u8 0,.int .u8 0,.bool false] 47);rw [World.size_alloc]at this;exact this)),kr⟩,Sk.size_mvR _,Sk.one_mvR _,?_⟩;intro W9 hP9 hq9))
 exact bodyPost_ret (results_cell_row results84 _ _ (w.heap.size+1) 47 _ (0,0) _ rfl hq9.heap underlying47 rfl (Sk.size_mvR _)) rfl ⟨rfl,hP9.below (hb _) om⟩
structure Sk.Ea (w:World) (T:TypeId) (size:Nat) (f:Nat→List Value) (k:Nat) (v:Value) (W:World):Prop where
 b:Below w.heap.size w W
 own:W.ownsRow w.heap.size T size v k (f k)
theorem Sk.Ea.below{w:World}{T:TypeId}{size:Nat}{f:Nat→List Value}{k:Nat}{v:Value}{W W':World}(h:Sk.Ea w T size f k v W)(hb:Below W.heap.size W W'):Sk.Ea w T size f k v W':=⟨za h.b hb,zq h.own hb⟩
theorem Sk.Ea.push{w:World}{T:TypeId}{size:Nat}{f:Nat→List Value}{k:Nat}{v v':Value}{W W':World}{o:Obj}{xs:List Value}(h:Sk.Ea w T size f k v W)(hg:(W.alloc o).grownBy W' v.ownBlock)(hown:W'.ownsRow w.heap.size T size v' (k+1) xs)(hf:f (k+1)=xs):Sk.Ea w T size f (k+1) v' W':=
 ⟨h.b.grown (Sk.grown_of_alloc hg) h.b.size (fun q hq=>(h.own.lt q hq).1),hf▸hown⟩
theorem geach_keys(base:Nat)(w:World)(g:Nat)(s:Sk.St)(n:Nat)(h:Sk.At base w g s n)(hN:n≤1000):
  Calls prog 81 #[.pointer (some ⟨g,0,none⟩),.func (.func 82) #[] #[]] w fun e w'=>∃v,e= .returned v∧w'.ownsRow w.heap.size 23 1 v n (Sk.keysC s n)∧Below w.heap.size w w':=by
 obtain⟨v,hG,hown⟩:=h.open'
 obtain⟨ao,cap,rfl⟩:=Sk.own_slice hown
 have c90:=hG.steps
 have HO:=hid hown
 have HN:=hid hN
 obtain⟨i0,hi0,hz0,hz1,hz2⟩:=info_parts Sk.info_u64S
 have hu:=underlying84
 clear h hG hown hN
 go_enter func81,ntmps81
 go_wp2
 go_loopw [5,7,13] (fun vo _ vi wr=>∃k,k≤n∧vi= .int .i64 (k:Int)∧Hid (Sk.Ea w 23 1 (Sk.keysC s) k vo wr)) (fun _ _ vi _=>n-(intOf vi).toNat)
 case atStart=>exact⟨0,Nat.zero_le _,rfl,hid ⟨Below.refl _ _,World.ownsRow_nil _ _ _ _⟩⟩
 case round=>
  obtain⟨k,hk,rfl,HE⟩:=hrel
  by_cases hlt:k<n
  ·obtain⟨b,rfl,_⟩:=Sk.own_cells HO om
   have HR:=hid (Sk.own_step HO om HE.b hlt)
   have hlt2:(k:Int)<(n:Int):=by omega
   have hk0:(0:Int)≤(k:Int):=by omega
   have HS:Hid (Sk.stepC s k=Sk.stepL (s.mv k) (H.key (s.pos (k+1))) (s.lb k)):=hid rfl
   have HF:Hid (∀y,H.key (s.pos (k+1))=y→Sk.keysC s (k+1)=Sk.keysC s k++[.int .u64 (U y)]):=hid (fun y e=>by rw [←e];exact Sk.keysC_succ s k)
   obtain⟨m,hm⟩:∃m,s.mv k=m:=⟨_,rfl⟩
   obtain⟨ky,hky⟩:∃y,H.key (s.pos (k+1))=y:=⟨_,rfl⟩
   obtain⟨lb,hlb⟩:∃y,s.lb k=y:=⟨_,rfl⟩
   replace HF:=hid (HF ky hky)
   rw [HS.out,hm,hky,hlb]at HR
   have hws:=HE.b.size
   clear hm hky hlb HS c90
   go_wp2_with (first
    |(refine wpList_load_mid rfl 97 _ rfl b (k*7) rfl (Sk.stepL m ky lb) _ HR underlying97 rfl Sk.size_step ?_)
    |((with_reducible refine zb rfl 97 _ _ rfl ?_);refine⟨wr.heap.size,97,(Sk.stepL m ky lb).toArray,rfl,rfl,⟨_,heap_alloc_new _ _,kr⟩,Sk.size_step,Sk.stepL_oneA _ _ _,?_⟩;intro W4 hP4 hr4;have HE4:=hid (HE.below (hP4.below ((Below.refl wr.heap.size wr).alloc (Nat.le_refl _) _) (Nat.le_refl _))))
    |((with_reducible refine zj rfl 97 _ rfl underlying97 rfl ?_);refine⟨_,_,_,rfl,hr4,Sk.size_step,?_⟩)
    |(go_at_call 82;(with_reducible refine(key1_any m ky lb _).mono ?_);rintro e w5 ⟨rfl,hb5⟩;have HE5:=hid (HE4.below hb5);clear hb5)
    |(at_builtin;refine wpList_append_own _ rfl _ _ 84 rfl w.heap.size 23 i0 (.int .u64 0) 1 8 hu hi0 hz0 hz1 hz2 rfl dc _ _ _ rfl (HE5.own.alloc _) ⟨w5.heap.size,0,none⟩ 1 1 [.int .u64 (U ky)] rfl rfl (cell_one_new _ _ _) (by simp [Value.oneCell']) (by have:=HN.out;unfold maxLen;omega) (by have:=HN.out;omega) (by have:=HE5.b.size;simp;omega) ?_;intro v' w6 hown6 hgrow _;have HE6:=hid (HE5.push hgrow hown6 HF);clear hown6 hgrow))
   obtain⟨e1,e2⟩:=Sk.st_next (by have:=HN.out;omega) hlt
   exact⟨⟨k+1,hlt,congrArg _ e1,HE6⟩,e2⟩
  ·obtain rfl:k=n:=by omega
   go_wp2
   go_ret
   exact⟨_,rfl,HE.own,HE.b⟩
theorem Sk.fill_mv(m:Mv):Instr.fill (fun i=>some (i*5,5)) ((Array.range (1*5)).map ((Value.agg #[.int .i8 0,.int .i8 0,.int .u8 0,.int .u8 0,.bool false]).cells[· % (Value.agg #[.int .i8 0,.int .i8 0,.int .u8 0,.int .u8 0,.bool false]).cells.size]!)) [(0,.agg (M.cell m).toArray)]=some (M.cell m).toArray:=by kernel_rfl
theorem geach_moves(base:Nat)(w:World)(g:Nat)(s:Sk.St)(n:Nat)(h:Sk.At base w g s n)(hN:n≤1000):
  Calls prog 83 #[.pointer (some ⟨g,0,none⟩),.func (.func 84) #[] #[]] w fun e w'=>∃v,e= .returned v∧w'.ownsRow w.heap.size 47 5 v n (Sk.movesC s n)∧Below w.heap.size w w':=by
 obtain⟨v,hG,hown⟩:=h.open'
 obtain⟨ao,cap,rfl⟩:=Sk.own_slice hown
 have c90:=hG.steps
 have HO:=hid hown
 have HN:=hid hN
 obtain⟨i0,hi0,hz0,hz1,hz2⟩:=info_parts Sk.info_mvS
 have hu:=underlying39
 clear h hG hown hN
 go_enter func83,ntmps83
 go_wp2
 go_loopw [5,7,13] (fun vo _ vi wr=>∃k,k≤n∧vi= .int .i64 (k:Int)∧Hid (Sk.Ea w 47 5 (Sk.movesC s) k vo wr)) (fun _ _ vi _=>n-(intOf vi).toNat)
 case atStart=>exact⟨0,Nat.zero_le _,rfl,hid ⟨Below.refl _ _,World.ownsRow_nil _ _ _ _⟩⟩
 case round=>
  obtain⟨k,hk,rfl,HE⟩:=hrel
  by_cases hlt:k<n
  ·obtain⟨b,rfl,_⟩:=Sk.own_cells HO om
   have HR:=hid (Sk.own_step HO om HE.b hlt)
   have hlt2:(k:Int)<(n:Int):=by omega
   have hk0:(0:Int)≤(k:Int):=by omega
   have HS:Hid (Sk.stepC s k=Sk.stepL (s.mv k) (H.key (s.pos (k+1))) (s.lb k)):=hid rfl
   have HF:Hid (∀y,s.mv k=y→Sk.movesC s (k+1)=Sk.movesC s k++M.cell y):=hid (fun y e=>by rw [←e];exact Sk.movesC_succ s k)
   obtain⟨m,hm⟩:∃m,s.mv k=m:=⟨_,rfl⟩
   obtain⟨ky,hky⟩:∃y,H.key (s.pos (k+1))=y:=⟨_,rfl⟩
   obtain⟨lb,hlb⟩:∃y,s.lb k=y:=⟨_,rfl⟩
   replace HF:=hid (HF m hm)
   have hl5:(M.cell m).length=5:=rfl
   rw [HS.out,hm,hky,hlb]at HR
   have hws:=HE.b.size
   clear hm hky hlb HS c90
   go_wp2_with (first
    |(refine wpList_load_mid rfl 97 _ rfl b (k*7) rfl (Sk.stepL m ky lb) _ HR underlying97 rfl Sk.size_step ?_)
    |((with_reducible refine zb rfl 97 _ _ rfl ?_);refine⟨wr.heap.size,97,(Sk.stepL m ky lb).toArray,rfl,rfl,⟨_,heap_alloc_new _ _,kr⟩,Sk.size_step,Sk.stepL_oneA _ _ _,?_⟩;intro W4 hP4 hr4;have HE4:=hid (HE.below (hP4.below ((Below.refl wr.heap.size wr).alloc (Nat.le_refl _) _) (Nat.le_refl _))))
    |((with_reducible refine zj rfl 97 _ rfl underlying97 rfl ?_);refine⟨_,_,_,rfl,hr4,Sk.size_step,?_⟩)
    |(go_at_call 84;(with_reducible refine(moves1_any m ky lb _).mono ?_);rintro e w5 ⟨rfl,hb5⟩;have HE5:=hid (HE4.below hb5);clear hb5)
    |(refine wpList_buildSlice rfl 39 47 1 _ rfl (M.cell m).toArray i0 _ hu hi0 hz0 (by rw [hz1];decide) (by rw [hz1];decide) (by rw [hz1];exact Sk.fill_mv m) ?_)
    |(at_builtin;refine wpList_append_own _ rfl _ _ 39 rfl w.heap.size 47 i0 _ 5 5 hu hi0 hz0 hz1 hz2 rfl dc _ _ _ rfl (HE5.own.alloc _) ⟨w5.heap.size,0,none⟩ 1 1 (M.cell m) rfl rfl (zcW (RowAt.new w5 (M.cell m).toArray 47)) (Sk.cell_oneL m) (by have:=HN.out;unfold maxLen;omega) (by have:=HN.out;omega) (by have:=HE5.b.size;simp;omega) ?_;intro v' w6 hown6 hgrow _;have HE6:=hid (HE5.push hgrow hown6 HF);clear hown6 hgrow))
   obtain⟨e1,e2⟩:=Sk.st_next (by have:=HN.out;omega) hlt
   exact⟨⟨k+1,hlt,congrArg _ e1,HE6⟩,e2⟩
  ·obtain rfl:k=n:=by omega
   go_wp2
   go_ret
   exact⟨_,rfl,HE.own,HE.b⟩
theorem gmoves_any(base:Nat)(w:World)(g:Nat)(s:Sk.St)(n:Nat)(h:Sk.At base w g s n)(hN:n≤1000):
  Calls prog 40 #[.pointer (some ⟨g,0,none⟩)] w fun e w'=>∃v,e= .returned v∧w'.ownsRow w.heap.size 47 5 v n (Sk.movesC s n)∧Below w.heap.size w w':=by
 obtain⟨v,hG,hown⟩:=h.open'
 have c0:=hG.made
 have HE:=hid (geach_moves base w g s n h hN)
 clear h hG hown
 go_enter func40,ntmps40
 go_wp2_with (first
  |(go_at_call 45;refine(zat g _ c0).mono ?_;rintro e w' ⟨rfl,rfl⟩)
  |(go_at_call 83;(with_reducible refine HE.out.mono ?_);rintro e w2 ⟨v2,rfl,h2,h3⟩))
 go_ret
 exact⟨_,rfl,h2,h3⟩
namespace Sk
theorem row_len(f:Nat→List Value)(z:Nat)(hz:∀i,(f i).length=z):∀n,((List.range n).flatMap f).length=n*z
 |0=>by simp
 |n+1=>by rw [List.range_succ,List.flatMap_append,List.length_append,row_len f z hz n,List.flatMap_cons,List.flatMap_nil,List.append_nil,hz,Nat.succ_mul]
theorem row_get(f:Nat→List Value)(z:Nat)(hz:∀i,(f i).length=z){n i j:Nat}(hi:i<n)(hj:j<z):((List.range n).flatMap f)[i*z+j]? =(f i)[j]?:=by
 induction n with
 |zero=>omega
 |succ n ih=>
  rw [List.range_succ,List.flatMap_append,List.flatMap_cons,List.flatMap_nil,List.append_nil]
  by_cases h:i<n
  ·have:i*z+j<n*z:=by
    have:=Nat.mul_le_mul_right z (show i+1≤n from h)
    rw [Nat.succ_mul]at this
    omega
   rw [List.getElem?_append_left (by rw [row_len f z hz];exact this)]
   exact ih h
  ·obtain rfl:i=n:=by omega
   rw [List.getElem?_append_right (by rw [row_len f z hz];omega),row_len f z hz]
   congr 1
   omega
theorem row_congr{f f':Nat→List Value}:∀n,(∀i,i<n→f i=f' i)→(List.range n).flatMap f=(List.range n).flatMap f'
 |0,_=>rfl
 |n+1,h=>by rw [List.range_succ,List.flatMap_append,List.flatMap_append,row_congr n (fun i hi=>h i om),List.flatMap_cons,List.flatMap_cons,h n om];rfl
def psC(p:Nat→Nat→Int)(n:Nat):List Value:=(List.range n).flatMap fun i=>(posC (p i)).toList
theorem psC_succ(p:Nat→Nat→Int)(n:Nat):psC p (n+1)=psC p n++(posC (p n)).toList:=by unfold psC;rw [List.range_succ,List.flatMap_append,List.flatMap_cons,List.flatMap_nil,List.append_nil]
theorem psC_congr{p q:Nat→Nat→Int}(n:Nat)(h:∀i,i<n→p i=q i):psC p n=psC q n:=row_congr n fun i hi=>by rw [h i hi]
def setP(p:Nat→Nat→Int)(i:Nat)(q:Nat→Int):Nat→Nat→Int:=fun k=>if k=i then q else p k
theorem own_ps{base:Nat}{w:World}{p:Nat→Nat→Int}{n cap b:Nat}(h:w.ownsRow base 31 88 (.slice (some ⟨b,0,none⟩) n cap) n (psC p n)){i:Nat}(hi:i<n):w.rangeAt b (i*88) (posC (p i)).toList:=fun j v hj=>by
 obtain⟨b',e,hc⟩:=Sk.own_cells h om
 cases e
 have hj8:j<88:=by have:=(List.getElem?_eq_some_iff.1 hj).1;rwa [posC_len]at this
 exact hc (i*88+j) v ((row_get (fun i=>(posC (p i)).toList) 88 (fun i=>posC_len _) hi hj8).trans hj)
theorem owns_setP{w:World}{base n cap g:Nat}{p:Nat→Nat→Int}(h:w.ownsRow base 31 88 (.slice (some ⟨g,0,none⟩) n cap) n (psC p n))(i:Nat)(hi:i<n)(q:Nat→Int):
  w.there g (i*88) (posC q).size∧(w.setCells g (i*88) (posC q).toList).ownsRow base 31 88 (.slice (some ⟨g,0,none⟩) n cap) n (psC (setP p i q) n):=by
 rcases h.2 with⟨e,_⟩|⟨g',cap',cur,e,hb,hg,hnc,hcm,hcs,htake⟩
 ·cases e
 ·injection e with e1 e2 e3
  injection e1 with e1
  injection e1 with e1 _ _
  subst e1 e3
  have hsz:n*88≤cap*88:=Nat.mul_le_mul_right 88 hnc
  have hin:i*88+88≤n*88:=by omega
  refine⟨fun j hj=> ?_,row_len _ 88 (fun i=>posC_len _) n,.inr ⟨g,cap,Lg.setSeg cur (i*88) (posC q).toList,rfl,hb,Lg.heap_setCellsO g _ _ _ _ _ hg,hnc,hcm,by rw [Lg.setSeg_size];exact hcs,?_⟩⟩
  ·rw [zC]at hj
   refine⟨?_,by simp [World.frozen?,hg]⟩
   simp only [World.cell?,hg]
   rw [Array.getElem?_eq_getElem om];rfl
  ·apply List.ext_getElem?
   intro k
   rw [List.getElem?_take]
   by_cases hk:k<n*88
   ·rw [if_pos hk,Array.getElem?_toList,Lg.setSeg_get,posC_len]
    have hd:k=k/88*88+k % 88:=by omega
    have hm:k % 88<88:=Nat.mod_lt _ om
    have hq:k/88<n:=by omega
    have e1:(psC (setP p i q) n)[k]? =(posC (setP p i q (k/88))).toList[k % 88]?:=by
     rw [hd]
     have:=row_get (fun i'=>(posC (setP p i q i')).toList) 88 (fun i=>posC_len _) hq hm
     rw [show(k/88*88+k % 88)/88=k/88 by omega,show(k/88*88+k % 88) % 88=k % 88 by omega]
     exact this
    have e2:(psC p n)[k]? =(posC (p (k/88))).toList[k % 88]?:=by
     have:=row_get (fun i'=>(posC (p i')).toList) 88 (fun i=>posC_len _) hq hm
     rw [←hd]at this
     exact this
    rw [e1]
    unfold setP
    by_cases hki:i*88≤k∧k<i*88+88
    ·rw [if_pos ⟨hki,by omega⟩,if_pos om]
     congr 1
     omega
    ·rw [if_neg (fun h=>hki h.1),if_neg om,←e2,←htake,List.getElem?_take,if_pos hk,Array.getElem?_toList]
   ·rw [if_neg hk,List.getElem?_eq_none (by show _≤k;have:=row_len (fun i'=>(posC (setP p i q i')).toList) 88 (fun i=>posC_len _) n;unfold psC;omega)]
theorem exec_ixp{ev:Operand→Value}{o:Oper}(x y:Operand){b n cap m:Nat}(ho:o.op= .indexAddr 38 x y)(hx:ev x= .slice (some ⟨b,0,none⟩) n cap)(hy:ev y= .int .i64 (m:Int))(w:World)(hm:m<n):(execOp ev o).run prog w= .ok (.value (.pointer (some ⟨b,m*88,none⟩))) w:=by
 unfold execOp
 simp only [ho,hx,hy]
 have e1:(0:Int)≤(m:Int):=by omega
 have e2:(m:Int)<(n:Int):=by omega
 simp [go_sem,e1,e2]
theorem exec_ldp{ev:Operand→Value}{o:Oper}{b off:Nat}{c:Nat→Int}{w:World}(x:Operand)(ho:o.op= .load 31 x)(hx:ev x= .pointer (some ⟨b,off,none⟩))(h:w.rangeAt b off (posC c).toList):(execOp ev o).run prog w= .ok (.value (.agg (posC c))) w:=by
 unfold execOp
 simp only [ho,hx,Instr.loadAt,Instr.sureAddr,Sem.run_bind,Sem.run_pure,Result.andThen_ok,run_loadVar_mid _ b off 31 (posC c).toList _ h underlying31 rfl (by rw [posC_len];exact zr c)]
def sw(p:Nat→Nat→Int)(n t:Nat):Nat→Nat→Int:=fun k=>if k<t∨n-1-t<k then p (n-1-k)else p k
theorem sw_0(p:Nat→Nat→Int)(n:Nat):psC (sw p n 0) n=psC p n:=psC_congr n fun i hi=>by unfold sw;rw [if_neg om]
theorem sw_end(p:Nat→Nat→Int)(n t:Nat)(h2:2*t≤n)(h:¬t<n-1-t):psC (sw p n t) n=psC (fun k=>p (n-1-k)) n:=psC_congr n fun i hi=>by
 unfold sw
 split
 ·rfl
 ·rw [show n-1-i=i by omega]
theorem sw_next(p:Nat→Nat→Int)(n t:Nat)(h:t<n-1-t):psC (setP (setP (sw p n t) t (sw p n t (n-1-t))) (n-1-t) (sw p n t t)) n=psC (sw p n (t+1)) n:=psC_congr n fun i hi=>by
 unfold setP sw
 by_cases e1:i=n-1-t
 ·rw [if_pos e1,if_neg om,if_pos om]
  congr 1
  omega
 ·rw [if_neg e1]
  by_cases e2:i=t
  ·rw [if_pos e2,if_neg om,if_pos om,e2]
  ·rw [if_neg e2]
   by_cases e3:i<t∨n-1-t<i
   ·rw [if_pos e3,if_pos om]
   ·rw [if_neg e3,if_neg om]
end Sk
theorem Sk.rv_next{n t j:Nat}(hN:n≤1000)(hj:n-1-t=j)(h:t<j):wrap64 ((t:Int)+1)=((t+1:Nat):Int)∧wrap64 ((j:Int)-1)=((n-1-(t+1):Nat):Int)∧2*(t+1)≤n∧n-(intOf (.int .i64 (wrap64 ((t:Int)+1)))).toNat<n-(intOf (.int .i64 (t:Int))).toNat:=by
 have e1:wrap64 ((t:Int)+1)=((t+1:Nat):Int):=by simp only [wrap64];omega
 refine⟨e1,by simp only [wrap64];omega,by omega,?_⟩
 rw [e1]
 simp only [intOf,Int.toNat_natCast]
 omega
theorem Sk.cut1{α:Type}{F G:α→Prop}{R:Prop}(h:∀a,F a→G a)(k:(∀a,F a→G a)→R):R:=k h
theorem greverse_any(base:Nat)(p:Nat→Nat→Int)(g n cap:Nat)(w:World)(hn:1≤n)(hN:n≤1000)(hown:w.ownsRow base 31 88 (.slice (some ⟨g,0,none⟩) n cap) n (Sk.psC p n)):
  Calls prog 80 #[.slice (some ⟨g,0,none⟩) n cap] w fun e w'=>(∃v,e= .returned v)∧w'.ownsRow base 31 88 (.slice (some ⟨g,0,none⟩) n cap) n (Sk.psC (fun k=>p (n-1-k)) n)∧w.grownBy w' (some g):=by
 have HO:=hid (show w.ownsRow base 31 88 (.slice (some ⟨g,0,none⟩) n cap) n (Sk.psC (Sk.sw p n 0) n)from(Sk.sw_0 p n).symm▸hown)
 have HN:=hid hN
 have hw0:((n:Int)-1)=((n-1:Nat):Int):=by omega
 have HW1:Hid (wrap64 ((n-1:Nat):Int)=((n-1:Nat):Int)):=hid (by simp only [wrap64];omega)
 clear hown hN
 go_enter func80,ntmps80
 go_wp2
 clear hw0
 go_loopw [2,3] (fun vi vj wr=>∃t:Nat,2*t≤n∧vi= .int .i64 (t:Int)∧vj= .int .i64 ((n-1-t:Nat):Int)∧Hid (wr.ownsRow base 31 88 (.slice (some ⟨g,0,none⟩) n cap) n (Sk.psC (Sk.sw p n t) n))∧Hid (w.grownBy wr (some g))) (fun vi _ _=>n-(intOf vi).toNat)
 case atStart=>exact⟨0,by omega,rfl,congrArg _ HW1,HO,hid ⟨rfl,rfl,rfl,Nat.le_refl _,fun _ _ _=>rfl⟩⟩
 case round=>
  obtain⟨t,ht,rfl,rfl,HOt,HG⟩:=hrel
  by_cases hlt:t<n-1-t
  ·obtain⟨j,hj⟩:∃j,n-1-t=j:=⟨_,rfl⟩
   have hr1:=hid (Sk.own_ps HOt (i:=t) om)
   have hr2:=hid (Sk.own_ps HOt (i:=j) om)
   have HX:=hid (Sk.sw_next p n t hlt)
   have hjn:j<n:=by omega
   have htn:t<n:=by omega
   rw [hj]at HX hlt⊢
   obtain⟨f,hf⟩:∃f,Sk.sw p n t=f:=⟨_,rfl⟩
   rw [hf]at HOt HX hr1 hr2
   have hlt2:(t:Int)<(j:Int):=by omega
   have HJ:=hid hj
   clear hf hj
   go_upto_region 3 with fail
   refine wp_region_held (S:=fun _=>True) kr ?_
   have hS:True:=trivial
   show wpAnyH _ _ _ _ _ _ _ _ wr.drew
   refine Sk.cut1 (F:=fun(W:World)=>W.ownsRow base 31 88 (.slice (some ⟨g,0,none⟩) n cap) n (Sk.psC (Sk.sw p n (t+1)) n)∧w.grownBy W (some g)) (G:= ?G) ?rest ?main
   case main=>
    intro key
    refine tq 0 14 (.slice (some ⟨g,0,none⟩) n cap) hS ?_
    refine tq 1 15 (.int .i64 (t:Int)) hS ?_
    refine tq 2 16 (.slice (some ⟨g,0,none⟩) n cap) hS ?_
    refine tq 3 17 (.int .i64 (j:Int)) hS ?_
    refine tq 4 18 (.slice (some ⟨g,0,none⟩) n cap) hS ?_
    refine tq 5 19 (.int .i64 (j:Int)) hS ?_
    refine tq 8 22 (.slice (some ⟨g,0,none⟩) n cap) hS ?_
    refine tq 9 23 (.int .i64 (t:Int)) hS ?_
    refine te 6 (some 20) (.pointer (some ⟨g,j*88,none⟩)) (zo (v0:= .pointer (some ⟨g,j*88,none⟩)) kr (fun w9=>Sk.exec_ixp (.tmp 18) (.tmp 19) (n:=n) (cap:=cap) kr kr kr w9 hjn) rfl) hS ?_
    refine te 10 (some 24) (.pointer (some ⟨g,t*88,none⟩)) (zo (v0:= .pointer (some ⟨g,t*88,none⟩)) kr (fun w9=>Sk.exec_ixp (.tmp 22) (.tmp 23) (n:=n) (cap:=cap) kr kr kr w9 htn) rfl) hS ?_
    refine wpAnyH_all (rs:=[7,11]) kr sp (fun i hi=> ?_)
    rcases(show i=7∨i=11 by simpa using hi)with rfl|rfl
    ·refine zz 7 (some 21) (.agg (posC (f j))) wr.drew kr kr kr (Sk.exec_ldp (.tmp 20) kr kr (show wr.drew.rangeAt g (j*88) _ from hr2.out)) ?_
     simp only [Act.put,sA,sB,sC]
     refine⟨trivial,?_⟩
     refine wpAnyH_all (rs:=[11]) kr sp (fun q hq=> ?_)
     obtain rfl:q=11:=by simpa using hq
     clear hq
     refine zz 11 (some 25) (.agg (posC (f t))) wr.drew kr kr kr (Sk.exec_ldp (.tmp 24) kr kr (show wr.drew.rangeAt g (t*88) _ from hr1.out)) ?_
     simp only [Act.put,sA,sB,sC]
     refine⟨trivial,?_⟩
     refine te 12 (some 26) (.pointer (some ⟨g,t*88,none⟩)) (zo (v0:= .pointer (some ⟨g,t*88,none⟩)) kr (fun w9=>Sk.exec_ixp (.tmp 14) (.tmp 15) (n:=n) (cap:=cap) kr kr kr w9 htn) rfl) hS ?_
     have hOd:wr.drew.ownsRow base 31 88 (.slice (some ⟨g,0,none⟩) n cap) n (Sk.psC f n):=HOt.out
     obtain⟨t1,o1⟩:=Sk.owns_setP hOd t htn (f j)
     refine Sk.takeStore 13 31 (.tmp 26) (.tmp 21) g (t*88) (posC (f j)) kr kr kr kr kr kr kr t1 (zr _) (zaG _) ?_
     refine⟨trivial,?_⟩
     obtain⟨W1,hW1⟩:∃W,wr.drew.setCells g (t*88) (posC (f j)).toList=W:=⟨_,rfl⟩
     have p1:Put g wr.drew W1:=hW1▸Lg.put_setCellsL g _ _ _
     rw [hW1]at o1⊢
     clear hW1
     refine te 14 (some 27) (.pointer (some ⟨g,j*88,none⟩)) (zo (v0:= .pointer (some ⟨g,j*88,none⟩)) kr (fun w9=>Sk.exec_ixp (.tmp 16) (.tmp 17) (n:=n) (cap:=cap) kr kr kr w9 hjn) rfl) hS ?_
     obtain⟨t2,o2⟩:=Sk.owns_setP o1 j hjn (f t)
     refine Sk.takeStore 15 31 (.tmp 27) (.tmp 25) g (j*88) (posC (f t)) kr kr kr kr kr kr kr t2 (zr _) (zaG _) ?_
     refine⟨trivial,?_⟩
     have p2:Put g W1 (W1.setCells g (j*88) (posC (f t)).toList):=Lg.put_setCellsL g _ _ _
     refine wpAnyH_done kr ?_ _
     rw [HX.out]at o2
     have hg0:w.grownBy wr.drew (some g):=⟨HG.os,HG.tape,HG.output,HG.size,HG.block⟩
     obtain⟨W2,hW2⟩:∃W,W1.setCells g (j*88) (posC (f t)).toList=W:=⟨_,rfl⟩
     rw [hW2]at o2 p2⊢
     exact key W2 ⟨o2,Sk.put_grown (Sk.put_grown hg0 p1) p2⟩
    ·refine zz 11 (some 25) (.agg (posC (f t))) wr.drew kr kr kr (Sk.exec_ldp (.tmp 24) kr kr (show wr.drew.rangeAt g (t*88) _ from hr1.out)) ?_
     simp only [Act.put,sA,sB,sC]
     refine⟨trivial,?_⟩
     refine wpAnyH_all (rs:=[7]) kr sp (fun q hq=> ?_)
     obtain rfl:q=7:=by simpa using hq
     clear hq
     refine zz 7 (some 21) (.agg (posC (f j))) wr.drew kr kr kr (Sk.exec_ldp (.tmp 20) kr kr (show wr.drew.rangeAt g (j*88) _ from hr2.out)) ?_
     simp only [Act.put,sA,sB,sC]
     refine⟨trivial,?_⟩
     refine te 12 (some 26) (.pointer (some ⟨g,t*88,none⟩)) (zo (v0:= .pointer (some ⟨g,t*88,none⟩)) kr (fun w9=>Sk.exec_ixp (.tmp 14) (.tmp 15) (n:=n) (cap:=cap) kr kr kr w9 htn) rfl) hS ?_
     have hOd:wr.drew.ownsRow base 31 88 (.slice (some ⟨g,0,none⟩) n cap) n (Sk.psC f n):=HOt.out
     obtain⟨t1,o1⟩:=Sk.owns_setP hOd t htn (f j)
     refine Sk.takeStore 13 31 (.tmp 26) (.tmp 21) g (t*88) (posC (f j)) kr kr kr kr kr kr kr t1 (zr _) (zaG _) ?_
     refine⟨trivial,?_⟩
     obtain⟨W1,hW1⟩:∃W,wr.drew.setCells g (t*88) (posC (f j)).toList=W:=⟨_,rfl⟩
     have p1:Put g wr.drew W1:=hW1▸Lg.put_setCellsL g _ _ _
     rw [hW1]at o1⊢
     clear hW1
     refine te 14 (some 27) (.pointer (some ⟨g,j*88,none⟩)) (zo (v0:= .pointer (some ⟨g,j*88,none⟩)) kr (fun w9=>Sk.exec_ixp (.tmp 16) (.tmp 17) (n:=n) (cap:=cap) kr kr kr w9 hjn) rfl) hS ?_
     obtain⟨t2,o2⟩:=Sk.owns_setP o1 j hjn (f t)
     refine Sk.takeStore 15 31 (.tmp 27) (.tmp 25) g (j*88) (posC (f t)) kr kr kr kr kr kr kr t2 (zr _) (zaG _) ?_
     refine⟨trivial,?_⟩
     have p2:Put g W1 (W1.setCells g (j*88) (posC (f t)).toList):=Lg.put_setCellsL g _ _ _
     refine wpAnyH_done kr ?_ _
     rw [HX.out]at o2
     have hg0:w.grownBy wr.drew (some g):=⟨HG.os,HG.tape,HG.output,HG.size,HG.block⟩
     obtain⟨W2,hW2⟩:∃W,W1.setCells g (j*88) (posC (f t)).toList=W:=⟨_,rfl⟩
     rw [hW2]at o2 p2⊢
     exact key W2 ⟨o2,Sk.put_grown (Sk.put_grown hg0 p1) p2⟩
   case rest=>
    rintro W4 ⟨ho4,hg4⟩
    have HO4:=hid ho4
    have HG4:=hid hg4
    clear ho4 hg4 hS hr1 hr2 HOt HG HX
    go_wp2
    obtain⟨e1,e2,e3,e4⟩:=Sk.rv_next HN HJ hlt
    exact⟨⟨t+1,e3,congrArg _ e1,congrArg _ e2,HO4,HG4⟩,e4⟩
  ·have HE:=hid (Sk.sw_end p n t ht hlt)
   have hnl:decide ((t:Int)<((n-1-t:Nat):Int))=false:=by simp;omega
   obtain⟨j,hj⟩:∃j,n-1-t=j:=⟨_,rfl⟩
   rw [hj]at hnl hlt⊢
   clear hj
   go_wp2
   first|go_ret|go_end0
   exact⟨⟨_,rfl⟩,HE.out▸HOt.out,HG⟩
theorem Sk.takeNone{P:Program}{ops:Array Oper}{Q:Exit→Act→World→Prop}{md:Region.Mode}{S:World→Prop}{fuel:Nat}{listed:Array Bool}{a:Act}{w:World}(i:Nat)(d:Option Tmp)(s x:Operand)(t:TypeId)(base:Nat)(e:TypeId)(i0:TypeInfo)(size:Nat)
  (ho:Nat.blt i ops.size=true) (hr:Region.ready md ops listed=[i]) (hw:Region.wanted (ops.getD i default) (yielded ops a.tmps)=true) (hd:(ops.getD i default).dst=d) (hop:(ops.getD i default).op= .call {callee:= .builtin .append,args:= #[s,x],argTypes:= #[t,t]})
  (ht:P.underlying t=some (.slice e)) (hi:P.info? e=some i0) (v:Value) (n:Nat) (xs:List Value) (hs:a.eval s=v) (hown:w.ownsRow base e size v n xs) (hx:a.eval x= .slice none 0 0)
  (h:S w∧wpAnyH P md ops Q S fuel (listed.setIfInBounds i true) (a.put d v) w):wpAnyH P md ops Q S (fuel+1) listed a w:=by
 refine takeOne i ho hr hw ?_
 generalize ops.getD i default=o at*
 have hrun:=run_append_owned_none (P:=P) (w:=w) base t o.type e i0 size ht hi v n xs hown
 unfold Oper.wp
 simp [execOp,hop,resolve,invoke,builtin,hs,hx,hrun,Result.andThen]
 show S w∧wpAnyH P md ops Q S fuel (listed.setIfInBounds i true) (a.put o.dst v) w
 rw [hd]
 exact h
theorem Sk.own_at{w:World}{base size n b cap:Nat}{e:TypeId}{xs:List Value}(h:w.ownsRow base e size (.slice (some ⟨b,0,none⟩) n cap) n xs)(j:Nat)(u:Value)(hj:xs[j]? =some u):w.cell? ⟨b,j,none⟩=some u:=by
 rcases h.2 with⟨e1,_⟩|⟨g,cap',cur,e1,hb,hg,hnc,hcm,hcs,htake⟩
 ·cases e1
 ·cases e1
  rw [←htake,List.getElem?_take]at hj
  split at hj
  ·simp only [World.cell?,hg]
   simpa using hj
  ·cases hj
def Sk.keysA(s:Sk.St)(n:Nat):List Value:= .int .u64 (U (H.key (s.pos 0)))::Sk.keysC s n
theorem Sk.own_one{w:World}{base b:Nat}{T:TypeId}{v:Value}(h:w.heap[b]? =some (.cells #[v] T (0,0)))(hb:base≤b):w.ownsRow base T 1 (.slice (some ⟨b,0,none⟩) 1 1) 1 [v]:=
 ⟨rfl,.inr ⟨b,1,#[v],rfl,hb,h,Nat.le_refl _,by decide,rfl,rfl⟩⟩
theorem gkeys_any(base:Nat)(w:World)(g:Nat)(s:Sk.St)(n:Nat)(h:Sk.At base w g s n)(hN:n≤1000):
  Calls prog 39 #[.pointer (some ⟨g,0,none⟩)] w fun e w'=>∃v,e= .returned v∧w'.ownsRow w.heap.size 23 1 v (n+1) (Sk.keysA s n)∧Below w.heap.size w w':=by
 obtain⟨v,hG,hown⟩:=h.open'
 have c0:=hG.made
 have HE:=hid (fun W (hb:Below w.heap.size w W)=>geach_keys base W g s n (h.below hb) hN)
 have H1:=hid (fun W (hb:Below w.heap.size w W)=>show W.cell? ⟨g,89,none⟩=some (.int .u64 (U (H.key (s.pos 0))))from(World.cell?_of_block (hb.block g hG.lt)).trans hG.first)
 have HN:=hid hN
 have hF:Hid (∀y,H.key (s.pos 0)=y→Sk.keysA s n=[.int .u64 (U y)]++Sk.keysC s n):=hid (fun y e=>by rw [←e];rfl)
 obtain⟨ky,hky⟩:∃y,H.key (s.pos 0)=y:=⟨_,rfl⟩
 replace hF:=hid (hF.out ky hky)
 rw [hky]at H1
 obtain⟨i0,hi0,hz0,hz1,hz2⟩:=info_parts Sk.info_u64S
 have hu:=underlying84
 clear h hG hown hN hky
 go_enter func39,ntmps39
 go_upto_region 3 with(go_at_call 45;refine(zat g _ c0).mono ?_;rintro e w' ⟨rfl,rfl⟩)
 refine wp_region_held (S:=fun W=>Below w.heap.size w W) kr ?_
 have hS:Below w.heap.size w w.drew:=(Below.refl _ _).drew
 show wpAnyH _ _ _ _ _ _ _ _ w.drew
 refine tq 0 5 (.pointer (some ⟨g,0,none⟩)) hS ?_
 refine tq 1 6 (.pointer (some ⟨g,0,none⟩)) hS ?_
 refine tq 2 7 (.pointer (some ⟨g,89,none⟩)) hS ?_
 refine te 3 (some 8) (.int .u64 (U ky)) (zt kr 23 (.tmp 7) kr ⟨g,89,none⟩ kr (fun w9=>Sk.load_u64 _ _ w9) (fun w9 h9=>H1 w9 h9)) hS ?_
 refine tq 5 10 (.pointer (some ⟨g,0,none⟩)) hS ?_
 refine wpAnyH_all (rs:=[4,6]) kr sp (fun i hi=> ?_)
 rcases(show i=4∨i=6 by simpa using hi)with rfl|rfl
 ·refine zz 4 (some 9) (.slice (some ⟨w.drew.heap.size,0,none⟩) 1 1) (w.drew.alloc (.cells #[.int .u64 (U ky)] 23)) kr kr kr kr ?_
  simp only [Act.put,sA,sB,sC]
  have hSb:Below w.heap.size w (w.drew.alloc (.cells #[.int .u64 (U ky)] 23)):=hS.alloc hS.size _
  have hnb:=World.alloc_heap_new w.drew (.cells #[.int .u64 (U ky)] 23)
  have hle:=hS.size
  obtain⟨nb,hnb'⟩:∃y,w.drew.heap.size=y:=⟨_,rfl⟩
  obtain⟨wb,hwb⟩:∃W,w.drew.alloc (.cells #[.int .u64 (U ky)] 23)=W:=⟨_,rfl⟩
  rw [hwb]at hSb hnb⊢
  rw [hnb']at hnb hle⊢
  have hbb:Below w.drew.heap.size w.drew wb:=hwb▸bA
  clear hnb' hwb
  refine⟨hSb,?_⟩
  refine takeCallE 6 (some 11) 81 (#[.pointer (some ⟨g,0,none⟩),.func (.func 82) #[] #[]]) (fun x W'=>W'.ownsRow wb.heap.size 23 1 x n (Sk.keysC s n)∧Below wb.heap.size wb W') kr kr kr kr kr ((HE _ hSb).mono (by rintro e W' ⟨x,rfl,h1,h2⟩;exact⟨x,rfl,h1,h2⟩)) (fun x w5 hR=> ?_)
  simp only [Act.put,sA,sB,sC]
  obtain⟨hx5,hb5⟩:=hR
  have hS5:Below w.heap.size w w5:=hSb.trans (hb5.mono hSb.size)
  refine⟨hS5,?_⟩
  replace hnb:=(hb5.block nb (Array.getElem?_eq_some_iff.1 hnb).1).trans hnb
  have hown1:w5.ownsRow w.heap.size 23 1 (.slice (some ⟨nb,0,none⟩) 1 1) 1 [.int .u64 (U ky)]:=Sk.own_one hnb hle
  rcases hx5.2 with⟨rfl,hn0⟩|⟨g5,cap5,cur5,rfl,_⟩
  ·refine Sk.takeNone 7 (some 12) (.tmp 9) (.tmp 11) 84 w.heap.size 23 i0 1 kr kr kr kr kr hu hi0 _ 1 _ kr hown1 kr ?_
   simp only [Act.put,sA,sB,sC]
   refine⟨hS5,?_⟩
   refine tq 8 2 (.slice (some ⟨nb,0,none⟩) 1 1) hS5 ?_
   refine wpAnyH_done kr ?_ _
   go_wp2
   go_ret
   refine⟨_,rfl,?_,hS5⟩
   rw [hF.out]
   have hk0:Sk.keysC s n=[]:=List.eq_nil_of_length_eq_zero (by have:=hx5.1;omega)
   rw [hk0]
   subst hn0
   exact hown1
  ·refine Sk.takeAppend 7 (some 12) (.tmp 9) (.tmp 11) 84 w.heap.size 23 i0 _ 1 8 kr kr kr kr kr hu hi0 hz0 hz1 hz2 rfl dc _ 1 _ kr hown1 ⟨g5,0,none⟩ n cap5 (Sk.keysC s n) kr (by have:=hx5.1;omega) (fun j u hj=>by rw [Addr.add_lit,Nat.zero_add];exact Sk.own_at hx5 j u hj) (fun u hu=>by simp [Sk.keysC]at hu;obtain⟨_,_,rfl⟩:=hu;rfl) (by have:=HN.out;unfold maxLen;omega) (by have:=HN.out;omega) hS5.size ?_
   intro v' w6 hown6 hgrow
   have hS6:Below w.heap.size w w6:=hS5.grown hgrow hS5.size (fun q hq=>(hown1.lt q hq).1)
   simp only [Act.put,sA,sB,sC]
   refine⟨hS6,?_⟩
   obtain⟨g',cap',rfl⟩:∃g' cap',v'= .slice (some ⟨g',0,none⟩) (1+n) cap':=by rw [Nat.add_comm 1 n]at hown6⊢;exact ownsRow_succ hown6
   refine tq 8 2 (.slice (some ⟨g',0,none⟩) (1+n) cap') hS6 ?_
   refine wpAnyH_done kr ?_ _
   go_wp2
   go_ret
   refine⟨_,rfl,?_,hS6⟩
   rw [hF.out,Nat.add_comm n 1]
   exact hown6
 ·refine Sk.wpOp_callE 6 (some 11) 81 (#[.pointer (some ⟨g,0,none⟩),.func (.func 82) #[] #[]]) (fun x W'=>W'.ownsRow w.drew.heap.size 23 1 x n (Sk.keysC s n)∧Below w.drew.heap.size w.drew W') kr kr kr kr ((HE _ hS).mono (by rintro e W' ⟨x,rfl,h1,h2⟩;exact⟨x,rfl,h1,h2⟩)) (fun x w5 hR=> ?_)
  simp only [Act.put,sA,sB,sC]
  obtain⟨hx5,hb5⟩:=hR
  have hS5:Below w.heap.size w w5:=hS.trans (hb5.mono hS.size)
  refine⟨hS5,?_⟩
  refine wpAnyH_all (rs:=[4]) kr sp (fun q hq=> ?_)
  obtain rfl:q=4:=by simpa using hq
  clear hq
  refine zz 4 (some 9) (.slice (some ⟨w5.heap.size,0,none⟩) 1 1) (w5.alloc (.cells #[.int .u64 (U ky)] 23)) kr kr kr kr ?_
  simp only [Act.put,sA,sB,sC]
  have hSb:Below w.heap.size w (w5.alloc (.cells #[.int .u64 (U ky)] 23)):=hS5.alloc hS5.size _
  have hnb:=World.alloc_heap_new w5 (.cells #[.int .u64 (U ky)] 23)
  have hle:=hS5.size
  obtain⟨nb,hnb'⟩:∃y,w5.heap.size=y:=⟨_,rfl⟩
  obtain⟨wb,hwb⟩:∃W,w5.alloc (.cells #[.int .u64 (U ky)] 23)=W:=⟨_,rfl⟩
  rw [hwb]at hSb hnb⊢
  rw [hnb']at hnb hle⊢
  have hbb:Below w5.heap.size w5 wb:=hwb▸bA
  clear hnb' hwb
  refine⟨hSb,?_⟩
  replace hx5:=zq hx5 hbb
  have hown1:wb.ownsRow w.heap.size 23 1 (.slice (some ⟨nb,0,none⟩) 1 1) 1 [.int .u64 (U ky)]:=Sk.own_one hnb hle
  rcases hx5.2 with⟨rfl,hn0⟩|⟨g5,cap5,cur5,rfl,_⟩
  ·refine Sk.takeNone 7 (some 12) (.tmp 9) (.tmp 11) 84 w.heap.size 23 i0 1 kr kr kr kr kr hu hi0 _ 1 _ kr hown1 kr ?_
   simp only [Act.put,sA,sB,sC]
   refine⟨hSb,?_⟩
   refine tq 8 2 (.slice (some ⟨nb,0,none⟩) 1 1) hSb ?_
   refine wpAnyH_done kr ?_ _
   go_wp2
   go_ret
   refine⟨_,rfl,?_,hSb⟩
   rw [hF.out]
   have hk0:Sk.keysC s n=[]:=List.eq_nil_of_length_eq_zero (by have:=hx5.1;omega)
   rw [hk0]
   subst hn0
   exact hown1
  ·refine Sk.takeAppend 7 (some 12) (.tmp 9) (.tmp 11) 84 w.heap.size 23 i0 _ 1 8 kr kr kr kr kr hu hi0 hz0 hz1 hz2 rfl dc _ 1 _ kr hown1 ⟨g5,0,none⟩ n cap5 (Sk.keysC s n) kr (by have:=hx5.1;omega) (fun j u hj=>by rw [Addr.add_lit,Nat.zero_add];exact Sk.own_at hx5 j u hj) (fun u hu=>by simp [Sk.keysC]at hu;obtain⟨_,_,rfl⟩:=hu;rfl) (by have:=HN.out;unfold maxLen;omega) (by have:=HN.out;omega) hSb.size ?_
   intro v' w6 hown6 hgrow
   have hS6:Below w.heap.size w w6:=hSb.grown hgrow hSb.size (fun q hq=>(hown1.lt q hq).1)
   simp only [Act.put,sA,sB,sC]
   refine⟨hS6,?_⟩
   obtain⟨g',cap',rfl⟩:∃g' cap',v'= .slice (some ⟨g',0,none⟩) (1+n) cap':=by rw [Nat.add_comm 1 n]at hown6⊢;exact ownsRow_succ hown6
   refine tq 8 2 (.slice (some ⟨g',0,none⟩) (1+n) cap') hS6 ?_
   refine wpAnyH_done kr ?_ _
   go_wp2
   go_ret
   refine⟨_,rfl,?_,hS6⟩
   rw [hF.out,Nat.add_comm n 1]
   exact hown6
end Go.Proofs.YtbakeajgolhkgaaGreatDoor
