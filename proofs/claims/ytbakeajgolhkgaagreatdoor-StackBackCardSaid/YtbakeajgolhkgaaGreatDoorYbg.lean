import Derived.Test.YtbakeajgolhkgaaGreatDoorYat
import Derived.Test.YtbakeajgolhkgaaGreatDoorYbf
import Derived.Test.YtbakeajgolhkgaaGreatDoorZl
set_option maxRecDepth 100000
set_option maxHeartbeats 8000000
open Go.Lib (hid)
namespace Go.Proofs.YtbakeajgolhkgaaGreatDoor
open Go.Proofs.Tryz
open Go.RowKit Go.Sort
namespace Sk
theorem gameC_size(c:Nat→Int)(k:BitVec 64)(v:Value):(gameC c k v).size=91:=by simp [gameC,posC,posL]
theorem gameC_0(c:Nat→Int)(k:BitVec 64)(v:Value):(gameC c k v)[0]? =some (.bool true):=rfl
theorem gameC_pos(c:Nat→Int)(k:BitVec 64)(v:Value)(i:Nat)(hi:i<88):(gameC c k v)[1+i]? =some (.int (pk i) (c i)):=by
 unfold gameC
 rw [List.getElem?_toArray,Nat.add_comm,List.getElem?_cons_succ,List.getElem?_append_left (by rw [posC_len];exact hi),Array.getElem?_toList]
 exact zE c i hi
theorem zbG(c:Nat→Int)(k:BitVec 64)(v:Value):(gameC c k v)[89]? =some (.int .u64 (U k)):=by
 unfold gameC
 rw [List.getElem?_toArray,List.getElem?_cons_succ,List.getElem?_append_right (by rw [posC_len];omega),posC_len]
 rfl
theorem gameC_90(c:Nat→Int)(k:BitVec 64)(v:Value):(gameC c k v)[90]? =some v:=by
 unfold gameC
 rw [List.getElem?_toArray,List.getElem?_cons_succ,List.getElem?_append_right (by rw [posC_len];omega),posC_len]
 rfl
theorem gameC_in(c d:Nat→Int)(k:BitVec 64)(v:Value):In (gameC c k v) 1 d=gameC d k v:=by
 symm
 refine in_ext (by rw [gameC_size];omega) (fun i hi=>gameC_pos d k v i hi) (fun i hi=> ?_)
 rcases hi with hi|hi
 ·obtain rfl:i=0:=by omega
  rfl
 ·by_cases h:i=89
  ·subst h;rw [zbG,zbG]
  ·by_cases h2:i=90
   ·subst h2;rw [gameC_90,gameC_90]
   ·rw [Array.getElem?_eq_none (by rw [gameC_size];omega),Array.getElem?_eq_none (by rw [gameC_size];omega)]
theorem gameC_set(c:Nat→Int)(k:BitVec 64)(v v':Value):(gameC c k v).setIfInBounds 90 v'=gameC c k v':=by
 apply Array.ext_getElem?
 intro i
 rw [Array.getElem?_setIfInBounds]
 by_cases h:90=i
 ·subst h
  rw [if_pos rfl,if_pos (by rw [gameC_size];omega),gameC_90]
 ·rw [if_neg h]
  by_cases h0:i=0
  ·subst h0;rfl
  ·by_cases h1:i<89
   ·obtain⟨j,rfl⟩:∃j,i=1+j:=⟨i-1,by omega⟩
    rw [gameC_pos _ _ _ j om,gameC_pos _ _ _ j om]
   ·by_cases h2:i=89
    ·subst h2;rw [zbG,zbG]
    ·rw [Array.getElem?_eq_none (by rw [gameC_size];omega),Array.getElem?_eq_none (by rw [gameC_size];omega)]
structure Gm1 (w:World) (g n:Nat) (c:Nat→Int) (k:BitVec 64) (v:Value):Prop where
 heap:w.heap[g]? =some (.cells (gameC c k v) 94 (0,0))
theorem Gm1.lt{w:World}{g n:Nat}{c:Nat→Int}{k:BitVec 64}{v:Value}(h:Gm1 w g n c k v):g<w.heap.size:=(Array.getElem?_eq_some_iff.1 h.heap).1
theorem Gm1.row{w:World}{g n:Nat}{c:Nat→Int}{k:BitVec 64}{v:Value}(h:Gm1 w g n c k v):RowAt w g 94 (gameC c k v):=⟨h.heap⟩
theorem Gm1.made{w:World}{g n:Nat}{c:Nat→Int}{k:BitVec 64}{v:Value}(h:Gm1 w g n c k v):w.cell? ⟨g,0,none⟩=some (.bool true):=h.row.cell 0
theorem Gm1.first{w:World}{g n:Nat}{c:Nat→Int}{k:BitVec 64}{v:Value}(h:Gm1 w g n c k v):w.cell? ⟨g,89,none⟩=some (.int .u64 (U k)):=(h.row.cell 89).trans (zbG _ _ _)
theorem Gm1.steps{w:World}{g n:Nat}{c:Nat→Int}{k:BitVec 64}{v:Value}(h:Gm1 w g n c k v):w.cell? ⟨g,90,none⟩=some v:=(h.row.cell 90).trans (gameC_90 _ _ _)
theorem Gm1.range{w:World}{g n:Nat}{c:Nat→Int}{k:BitVec 64}{v:Value}(h:Gm1 w g n c k v):w.rangeAt g 1 (posC c).toList:=by
 intro i u hu
 have hi:i<88:=by have:=(List.getElem?_eq_some_iff.1 hu).1;rwa [posC_len]at this
 rw [Array.getElem?_toList,zE c i hi]at hu
 rw [←hu]
 exact(h.row.cell (1+i)).trans (gameC_pos _ _ _ i hi)
theorem Gm1.seg{w:World}{g n:Nat}{c:Nat→Int}{k:BitVec 64}{v:Value}(h:Gm1 w g n c k v):Seg w g 1 c:=fun i hi=>(h.row.cell (1+i)).trans (gameC_pos _ _ _ i hi)
theorem own_slice{w:World}{base size n:Nat}{e:TypeId}{v:Value}{xs:List Value}(h:w.ownsRow base e size v n xs):∃ao cap,v= .slice ao n cap:=by
 rcases h.2 with⟨rfl,rfl⟩|⟨g,cap,cur,rfl,_⟩
 ·exact⟨_,_,rfl⟩
 ·exact⟨_,_,rfl⟩
theorem At.open'{base:Nat}{w:World}{g:Nat}{s:St}{n:Nat}(h:At base w g s n):∃v,Gm1 w g n (s.pos n) (H.key (s.pos 0)) v∧w.ownsRow base 97 7 v n (stepsC s n):=
 let⟨v,h1,h2⟩:=h.mem
 ⟨v,⟨h1⟩,h2⟩
end Sk
theorem zat(g:Nat)(w:World)(h:w.cell? ⟨g,0,none⟩=some (.bool true)):cR 45 #[.pointer (some ⟨g,0,none⟩)] w (.bool false) fun w'=>w=w':=by
 go_enter func45,ntmps45
 go_wp2
 go_ret
 exact⟨rfl,rfl⟩
theorem zey(base:Nat)(w:World)(g:Nat)(s:Sk.St)(n:Nat)(h:Sk.At base w g s n):cB 18 #[.pointer (some ⟨g,0,none⟩)] w (.agg (posC (s.pos n))):=by
 obtain⟨v,hG,_⟩:=h.open'
 have hb:Below w.heap.size w (w.alloc (.cells zeroCells31 31)):=bA
 have hr:=(hG.row.alloc (.cells zeroCells31 31)).cell 0
 rw [Sk.gameC_0]at hr
 have hrg:(w.alloc (.cells zeroCells31 31)).rangeAt g 1 (posC (s.pos n)).toList:=fun i u hu=>(hb.cell (p:=⟨g,1+i,none⟩) hG.lt).trans (hG.range i u hu)
 clear h hG
 go_enter func18,ntmps18
 go_wp2_with (first
  |(go_at_call 45;refine(zat g _ hr).mono ?_;rintro e w' ⟨rfl,rfl⟩)
  |(refine wpList_load_mid rfl 31 _ rfl g 1 rfl (posC (s.pos n)).toList _ hrg underlying31 rfl (zr _) ?_)
  |((with_reducible refine zn rfl _ _ rfl ?_);refine⟨w.heap.size,s.pos n,rfl,rfl,⟨_,heap_alloc_new _ _,by kernel_rfl⟩,?_⟩;intro W hP hq))
 refine bodyPost_ret (v:= .agg (posC (s.pos n))) ?_ rfl ⟨rfl,hP.below hb (Nat.le_refl _)⟩
 exact results_cell_row results18 _ _ w.heap.size 31 _ (0,0) _ rfl hq.heap underlying31 rfl (zr _)
theorem zhY(base:Nat)(w:World)(g:Nat)(s:Sk.St)(n:Nat)(h:Sk.At base w g s n):cR 21 #[.pointer (some ⟨g,0,none⟩)] w (.int .i64 (n:Int)) fun w'=>w=w':=by
 obtain⟨v,hG,hown⟩:=h.open'
 obtain⟨ao,cap,rfl⟩:=Sk.own_slice hown
 have h0:=hG.made
 have h90:=hG.steps
 clear h hG hown
 go_enter func21,ntmps21
 go_wp2_with (go_at_call 45;refine(zat g _ h0).mono ?_;rintro e w' ⟨rfl,rfl⟩)
 go_ret
 exact⟨rfl,rfl⟩
theorem Sk.own_cells{w:World}{base size n cap:Nat}{e:TypeId}{ao:Option Addr}{xs:List Value}(h:w.ownsRow base e size (.slice ao n cap) n xs)(hn:0<n):∃b,ao=some ⟨b,0,none⟩∧∀(j:Nat) u,xs[j]? =some u→w.cell? ⟨b,j,none⟩=some u:=by
 rcases h.2 with⟨_,rfl⟩|⟨g,cap',cur,e1,hb,hg,hnc,hcm,hcs,htake⟩
 ·omega
 ·injection e1 with e1 _ e3
  refine⟨g,e1,fun j u hu=> ?_⟩
  rw [←htake,List.getElem?_take]at hu
  split at hu
  ·simp only [World.cell?,hg]
   simpa using hu
  ·cases hu
theorem Sk.own_cap{w:World}{base size n cap:Nat}{e:TypeId}{ao:Option Addr}{xs:List Value}(h:w.ownsRow base e size (.slice ao n cap) n xs):n≤cap:=by
 rcases h.2 with⟨e1,rfl⟩|⟨g,cap',cur,e1,hb,hg,hnc,_⟩
 ·omega
 ·injection e1 with _ _ e3
  omega
theorem Sk.exec_build{P:Program}{ev:Operand→Value}{o:Oper}(t:TypeId)(parts:Array (Nat×Operand))(l:List (Nat×Value))(cells:Array Value)(ho:o.op= .build t parts)(hl:(parts.toList.map fun q=>(q.1,ev q.2))=l)(hb:P.built t l=some cells)(w:World):(execOp ev o).run P w= .ok (.value (.agg cells)) w:=by
 subst hl
 unfold execOp
 have h1:=run_build w t (parts.map fun(i,x)=>(i,ev x)) cells (by rw [Array.toList_map];exact hb)
 simp only [ho,Sem.run_bind,h1,Result.andThen_ok,Sem.run_pure]
theorem Sk.built_game(c:Nat→Int)(k:BitVec 64):prog.built 94 [(0,.bool true),(1,.agg (posC c)),(2,.int .u64 (U k))]=some (Sk.gameC c k (.slice none 0 0)):=by kernel_rfl
def Sk.st0(c:Nat→Int):Sk.St:=⟨fun _=>c,fun _=>(0,0,0,0,false),fun _=>0,fun _ _=>False⟩
theorem zhX(base:Nat)(c:Nat→Int)(w:World)(hc:PosOk c)(hbase:base≤w.heap.size):Calls prog 12 #[.agg (posC c)] w fun e w'=>∃g,e= .returned (.pointer (some ⟨g,0,none⟩))∧Sk.At base w' g (Sk.st0 c) 0∧Below w.heap.size w w':=by
 have hp:=PosAt.new w c
 have hb:Below w.heap.size w (w.alloc (.cells (posC c) 31)):=bA
 obtain⟨W1,hW1⟩:∃W,w.alloc (.cells (posC c) 31)=W:=⟨_,rfl⟩
 rw [hW1]at hp hb
 obtain⟨ky,hky⟩:∃k,H.key c=k:=⟨_,rfl⟩
 have HKy:=hid (fun W=>hky▸zhD c W hc)
 have Hky:=hid hky
 have Hc:=hid hc
 clear hc hky
 go_enter func12,ntmps12
 go_upto_region 1 with fail
 clear hW1
 refine wp_region_held (S:=fun W=>PosAt W w.heap.size c∧Below w.heap.size w W) kr ?_
 have hS:PosAt W1.drew w.heap.size c∧Below w.heap.size w W1.drew:=⟨hp.drew,M.below_drew hb 1⟩
 clear hp hb
 refine te 0 (some 3) (.agg (posC c)) (Lg.yi_row kr 31 (.tmp 1) kr w.heap.size 31 _ kr underlying31 rfl (zr c) (fun _ h=>⟨h.1.heap⟩)) hS ?_
 refine te 1 (some 4) (.agg (posC c)) (Lg.yi_row kr 31 (.tmp 1) kr w.heap.size 31 _ kr underlying31 rfl (zr c) (fun _ h=>⟨h.1.heap⟩)) hS ?_
 refine tf 2 (some 5) 20 (#[.agg (posC c)]) (.int .u64 (U (ky))) (fun W=>Below W1.drew.heap.size W1.drew W) (HKy _) (fun w2 hb2=> ?_)
 have hS2:PosAt w2 w.heap.size c∧Below w.heap.size w w2:=⟨hS.1.below hb2,za hS.2 hb2⟩
 refine⟨hS2,?_⟩
 refine te 3 (some 6) (.agg (Sk.gameC c (ky) (.slice none 0 0))) (zo (v0:= .agg (Sk.gameC c (ky) (.slice none 0 0))) kr (fun W=>Sk.exec_build 94 #[(0,.const (.bool true)),(1,.tmp 3),(2,.tmp 5)] [(0,.bool true),(1,.agg (posC c)),(2,.int .u64 (U ky))] _ kr kr (Sk.built_game c ky) W) rfl) hS2 ?_
 refine wpAnyH_all (rs:=[4]) kr sp (fun j hj=> ?_)
 obtain rfl:j=4:=by simpa using hj
 clear hj
 refine zz 4 (some 7) (.pointer (some ⟨w2.heap.size,0,none⟩)) (w2.alloc (.cells (Sk.gameC c (ky) (.slice none 0 0)) 94)) kr kr kr kr ?_
 simp only [Act.put,sA,sB,sC]
 have hS3:PosAt (w2.alloc (.cells (Sk.gameC c (ky) (.slice none 0 0)) 94)) w.heap.size c∧Below w.heap.size w (w2.alloc (.cells (Sk.gameC c (ky) (.slice none 0 0)) 94)):=⟨hS2.1.alloc _,hS2.2.alloc hS2.2.size _⟩
 refine⟨hS3,?_⟩
 refine tq 5 2 (.pointer (some ⟨w2.heap.size,0,none⟩)) hS3 ?_
 refine wpAnyH_done kr ?_ _
 go_wp2
 go_ret
 refine⟨w2.heap.size,rfl,⟨by have:=hS2.2.size;omega,fun i hi=>Hc,fun i hi=>by omega,fun i hi=>by omega,.slice none 0 0,by rw [show(Sk.st0 c).pos 0=c from rfl,Hky.out];exact heap_alloc_new _ _,World.ownsRow_nil _ _ _ _⟩,hS3.2⟩
theorem zc1(base:Nat)(w:World)(g:Nat)(s:Sk.St)(n:Nat)(h:Sk.At base w g s n)(hN:n≤100000):cB 19 #[.pointer (some ⟨g,0,none⟩)] w (.int .u64 (U (H.key (s.pos n)))):=by
 obtain⟨v,hG,hown⟩:=h.open'
 obtain⟨ao,cap,rfl⟩:=Sk.own_slice hown
 have h0:=hG.made
 have h90:=hG.steps
 have h89:=hG.first
 by_cases hn:n=0
 ·subst hn
  clear h hG hown
  go_enter func19,ntmps19
  go_wp2_with (go_at_call 45;refine(zat g _ h0).mono ?_;rintro e w' ⟨rfl,rfl⟩)
  go_ret
  exact⟨rfl,Below.refl _ _⟩
 ·obtain⟨m,rfl⟩:∃m,n=m+1:=⟨n-1,by omega⟩
  obtain⟨b,rfl,hc⟩:=Sk.own_cells hown om
  have hk:w.cell? ⟨b,m*7+5,none⟩=some (.int .u64 (U (H.key (s.pos (m+1))))):=hc _ _ ((Sk.stepsC_get s (Nat.lt_succ_self m) (by decide:5<7)).trans rfl)
  have hm:m<100000:=by omega
  have hcm:=Sk.own_cap hown
  clear h hG hown hc hn
  go_enter func19,ntmps19
  go_upto_region 5 with(go_at_call 45;refine(zat g _ h0).mono ?_;rintro e w' ⟨rfl,rfl⟩)
  go_region
  all_goals
   go_wp2
   go_ret
   exact⟨rfl,(Below.refl _ _).drew⟩
end Go.Proofs.YtbakeajgolhkgaaGreatDoor
