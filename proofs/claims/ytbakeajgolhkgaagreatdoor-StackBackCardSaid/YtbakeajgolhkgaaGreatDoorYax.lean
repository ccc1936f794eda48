import Derived.Test.YtbakeajgolhkgaaGreatDoorYap
import Derived.Test.YtbakeajgolhkgaaGreatDoorZl
set_option maxRecDepth 100000
set_option maxHeartbeats 8000000
open Go.Lib (hid)
namespace Go.Proofs.YtbakeajgolhkgaaGreatDoor
open Go.Proofs.Tryz
open Go.RowKit Go.Sort
attribute [local go_sem] Oper.semAt_some
theorem A.exec_ix{ev:Operand→Value}{o:Oper}(x y:Operand){g off n:Nat}{k:IntKind}(ho:o.op= .indexAddr 22 x y)(hx:ev x= .pointer (some ⟨g,off,none⟩))(hy:ev y= .int k (n:Int))(w:World)(hn:n<64):(execOp ev o).run prog w= .ok (.value (.pointer (some ⟨g,off+n,none⟩))) w:=by
 unfold execOp
 simp only [ho,hx,hy]
 have e1:(0:Int)≤(n:Int):=by omega
 have e2:(n:Int)<64:=by omega
 simp [go_sem,e1,e2]
theorem A.was_cell{w':World}{b:Nat}{c:Nat→Int}{m:Mv}{t:Int}(h:∃q',A.MvAt w' b q' c m t)(n:Nat)(hn:n<64):w'.cell? ⟨b,89+n,none⟩=some (.int .u8 (c (1+n))):=by
 obtain⟨q',h⟩:=h
 have:=h.atc (1+n) om .u8 (zk hn)
 rwa [←Nat.add_assoc]at this
theorem A.make_b(c k:Int)(w:World)(h0:0≤c)(h1:c≤255)(h2:0≤k)(h3:k≤255):
  cB 126 #[.int .u8 c,.int .u8 k] w (.int .u8 (P.make c k)):=
 (zc5 c k w h0 h1 h2 h3).mono (by rintro e w' ⟨h,rfl⟩;exact⟨h,Below.refl _ _⟩)
theorem zi1(c:Nat→Int)(F G:Nat)(p d:Int)(t:Int)(b:Nat)(w:World)(hM:A.MvAt w b c c ((F:Int),(G:Int),p,d,false) t)(hF64:F<64)(hG64:G<64)(hq:PosOk c)(hd:(d !=0)=false)(hp:(p !=0)=true)(hp0:0≤p)(hp1:p≤255)(tn:Nat)(ht64:tn<64)(ht:t=(tn:Int)):
  cR 52 #[.pointer (some ⟨b,0,none⟩)] w (.tuple #[]) fun w'=>A.Step b (A.men c ((F:Int),(G:Int),p,d,false) t) c ((F:Int),(G:Int),p,d,false) t w w':=by
 have E:=hid (show A.men c ((F:Int),(G:Int),p,d,false) t=(upd (upd (upd (upd c (1+tn) 0) (1+F) 0) (1+G) (c (1+F))) (1+G) (P.make (c 78) p)) by
  unfold A.men
  rw [if_neg (show¬false=true by simp),if_neg (show¬d≠0 by simpa using hd),if_pos (show p≠0 by simpa using hp),if_pos (show 0≤t by omega),ht]
  rfl)
 obtain⟨x0,x1⟩:=zp hq (i:=78) dc rfl
 have hmi:=underlying47
 have iF:(F:Int)<64:=by omega
 have iG:(G:Int)<64:=by omega
 have iT:(tn:Int)<64:=by omega
 have hlt:=hM.lt
 have G0:=World.grownBy.refl w (some b)
 have hrm:w.rangeAt b 176 [.int .i8 (F:Int),.int .i8 (G:Int),.int .u8 p,.int .u8 d,.bool false]:=hM.rm
 clear hq
 go_enter func52,ntmps52
 go_upto_region 6 with((with_reducible refine z8 rfl 47 _ rfl hmi rfl ?_);refine⟨b,176,_,rfl,hrm,A.cell_info ((F:Int),(G:Int),p,d,false),?_⟩)
 have hMc:=hM.alloc (.cells #[.int .i8 (F:Int),.int .i8 (G:Int),.int .u8 p,.int .u8 d,.bool false] 47)
 have hGc:w.grownBy (w.alloc (.cells #[.int .i8 (F:Int),.int .i8 (G:Int),.int .u8 p,.int .u8 d,.bool false] 47)) (some b):=A.below_step G0 bA
 have hDc:=RowAt.new w #[.int .i8 (F:Int),.int .i8 (G:Int),.int .u8 p,.int .u8 d,.bool false] 47
 obtain⟨D,hD⟩:∃D,w.heap.size=D:=⟨_,rfl⟩
 have hDb:D≠b:=by omega
 obtain⟨W1,hW1⟩:∃W1,w.alloc (.cells #[.int .i8 (F:Int),.int .i8 (G:Int),.int .u8 p,.int .u8 d,.bool false] 47)=W1:=⟨_,rfl⟩
 rw [hD]at hDc⊢
 rw [hW1]at hMc hGc hDc⊢
 clear hM hrm G0 hW1
 have d2:W1.cell? ⟨D,2,none⟩=some (.int .u8 p):=hDc.cell 2
 have d3:W1.cell? ⟨D,3,none⟩=some (.int .u8 d):=hDc.cell 3
 have d4:W1.cell? ⟨D,4,none⟩=some (.bool false):=hDc.cell 4
 have d1:W1.cell? ⟨D,1,none⟩=some (.int .i8 (G:Int)):=hDc.cell 1
 have c181:=hMc.att
 rw [ht]at c181
 go_wp2_with fail
 have hbl:=hMc.lt
 refine zl (n:=9) kr kr ?_
 simp only [List.take_succ_cons,List.take_zero,List.drop_succ_cons,List.drop_zero]
 repeat(quiet_step (fail))
 refine wpQuiet_nil ?_
 intro W2 hb2
 replace hMc:=hMc.below hb2
 replace hDc:=hDc.below hb2
 replace hGc:=A.below_step hGc hb2
 clear d1 d2 d3 d4 c181 hbl hb2
 go_upto_region 3 with((with_reducible refine zg rfl _ _ _ rfl ?_);refine⟨b,1+tn,_,c,_,t,0,.u8,rfl,rfl,om,zk ht64,size_u8A,hMc,?_⟩;intro W3 hP3 hM3;replace hMc:=hM3;clear hM3)
 replace hDc:=hP3.row hDc hDb
 replace hGc:=A.put_grown hGc hP3
 clear hP3
 simp only [Act.put]
 refine wp_region_held (S:=fun w'=>(∃q',A.MvAt w' b q' c ((F:Int),(G:Int),p,d,false) t)∧RowAt w' D 47 #[.int .i8 (F:Int),.int .i8 (G:Int),.int .u8 p,.int .u8 d,.bool false]∧w.grownBy w' (some b)) kr ?_
 have hMd:A.MvAt W3.drew b _ c ((F:Int),(G:Int),p,d,false) t:=⟨⟨hMc.row.heap⟩⟩
 have hSd:(∃q',A.MvAt W3.drew b q' c ((F:Int),(G:Int),p,d,false) t)∧RowAt W3.drew D 47 #[.int .i8 (F:Int),.int .i8 (G:Int),.int .u8 p,.int .u8 d,.bool false]∧w.grownBy W3.drew (some b):=⟨⟨_,hMd⟩,⟨hDc.heap⟩,A.below_step hGc (M.below_drew (Below.refl _ _) 1)⟩
 clear hMc hDc hGc
 refine tq 0 24 (.pointer (some ⟨b,0,none⟩)) hSd ?_
 refine tq 1 25 (.pointer (some ⟨D,0,none⟩)) hSd ?_
 refine te 2 (some 26) (.int .i8 (F:Int)) (zt kr 26 (.tmp 25) kr ⟨D,0,none⟩ kr (fun w9=>zK _ _ w9) (fun w9 h9=>(h9.2.1.cell 0))) hSd ?_
 refine tq 3 27 (.pointer (some ⟨b,0,none⟩)) hSd ?_
 refine tq 4 28 (.pointer (some ⟨D,1,none⟩)) hSd ?_
 refine te 5 (some 29) (.int .i8 (G:Int)) (zt kr 26 (.tmp 28) kr ⟨D,1,none⟩ kr (fun w9=>zK _ _ w9) (fun w9 h9=>(h9.2.1.cell 1))) hSd ?_
 refine tq 6 30 (.pointer (some ⟨b,0,none⟩)) hSd ?_
 refine tq 7 31 (.pointer (some ⟨D,0,none⟩)) hSd ?_
 refine te 8 (some 32) (.int .i8 (F:Int)) (zt kr 26 (.tmp 31) kr ⟨D,0,none⟩ kr (fun w9=>zK _ _ w9) (fun w9 h9=>(h9.2.1.cell 0))) hSd ?_
 refine tq 9 33 (.pointer (some ⟨b,0,none⟩)) hSd ?_
 refine tq 10 34 (.pointer (some ⟨b,88,none⟩)) hSd ?_
 refine tq 11 35 (.pointer (some ⟨b,89,none⟩)) hSd ?_
 refine te 12 (some 36) (.pointer (some ⟨b,89+F,none⟩)) (zo (v0:= .pointer (some ⟨b,89+F,none⟩)) kr (fun w9=>A.exec_ix (.tmp 35) (.tmp 32) (n:=F) (off:=89) (k:= .i8) kr kr kr w9 hF64) rfl) hSd ?_
 refine te 13 (some 37) (.int .u8 (c (1+F))) (zt kr 5 (.tmp 36) kr ⟨b,89+F,none⟩ kr (fun w9=>zV _ _ w9) (fun w9 h9=>(A.was_cell h9.1 F hF64))) hSd ?_
 refine tq 14 38 (.pointer (some ⟨b,0,none⟩)) hSd ?_
 refine tq 15 39 (.pointer (some ⟨b,0,none⟩)) hSd ?_
 refine tq 16 40 (.pointer (some ⟨b,1,none⟩)) hSd ?_
 refine te 17 (some 41) (.pointer (some ⟨b,1+F,none⟩)) (zo (v0:= .pointer (some ⟨b,1+F,none⟩)) kr (fun w9=>A.exec_ix (.tmp 40) (.tmp 26) (n:=F) (off:=1) (k:= .i8) kr kr kr w9 hF64) rfl) hSd ?_
 refine tq 19 42 (.pointer (some ⟨b,0,none⟩)) hSd ?_
 refine tq 20 43 (.pointer (some ⟨b,0,none⟩)) hSd ?_
 refine tq 21 44 (.pointer (some ⟨b,1,none⟩)) hSd ?_
 refine takeOne 18 kr kr kr ?_
 refine zM 5 (.tmp 41) (.const (.int .u8 0)) kr (b:=b) (i:=1+F) (n:=0) kr kr om (zk hF64) size_u8A hMd (fun u1 hPu1 hMu1=> ?_)
 have hSu1:(∃q',A.MvAt u1 b q' c ((F:Int),(G:Int),p,d,false) t)∧RowAt u1 D 47 #[.int .i8 (F:Int),.int .i8 (G:Int),.int .u8 p,.int .u8 d,.bool false]∧w.grownBy u1 (some b):=⟨⟨_,hMu1⟩,hPu1.row hSd.2.1 hDb,A.put_grown hSd.2.2 hPu1⟩
 refine⟨hSu1,?_⟩
 clear hPu1
 simp only [Act.put]
 refine tD 22 (some 45) (.pointer (some ⟨b,1+G,none⟩)) (zo (v0:= .pointer (some ⟨b,1+G,none⟩)) kr (fun w9=>A.exec_ix (.tmp 44) (.tmp 29) (n:=G) (off:=1) (k:= .i8) kr kr kr w9 hG64) rfl) hSu1 ?_
 simp only [Act.put,sA]
 refine takeOne 23 kr kr kr ?_
 refine zM 5 (.tmp 45) (.tmp 37) kr (b:=b) (i:=1+G) (n:=(c (1+F))) kr kr om (zk hG64) size_u8A hMu1 (fun u2 hPu2 hMu2=> ?_)
 have hSu2:(∃q',A.MvAt u2 b q' c ((F:Int),(G:Int),p,d,false) t)∧RowAt u2 D 47 #[.int .i8 (F:Int),.int .i8 (G:Int),.int .u8 p,.int .u8 d,.bool false]∧w.grownBy u2 (some b):=⟨⟨_,hMu2⟩,hPu2.row hSu1.2.1 hDb,A.put_grown hSu1.2.2 hPu2⟩
 refine⟨hSu2,?_⟩
 clear hPu2
 simp only [Act.put]
 refine wpAnyH_done kr ?_ _
 have hMc:=hMu2
 have hDc:=hSu2.2.1
 have hGc:=hSu2.2.2
 clear hSu1 hSu2 hMu1 hMu2 hSd hMd
 have d2:u2.cell? ⟨D,2,none⟩=some (.int .u8 p):=hDc.cell 2
 have d3:u2.cell? ⟨D,3,none⟩=some (.int .u8 d):=hDc.cell 3
 have d4:u2.cell? ⟨D,4,none⟩=some (.bool false):=hDc.cell 4
 have d1:u2.cell? ⟨D,1,none⟩=some (.int .i8 (G:Int)):=hDc.cell 1
 have h78:u2.cell? ⟨b,78,none⟩=some (.int .u8 (c 78)):=by
  have:=hMc.atq 78 dc .u8 rfl
  rwa [zT _ _ _ _ om,zT _ _ _ _ om,zT _ _ _ _ om]at this
 go_wp2_with fail
 have hbl:=hMc.lt
 have hbD:=hDc.lt
 refine zl (n:=15) kr kr ?_
 simp only [List.take_succ_cons,List.take_zero,List.drop_succ_cons,List.drop_zero]
 repeat(quiet_step ((go_at_call 126;exact zd (A.make_b _ _ _ x0 x1 hp0 hp1))))
 refine wpQuiet_nil ?_
 intro W4 hb4
 replace hMc:=hMc.below hb4
 replace hGc:=A.below_step hGc hb4
 clear d1 d2 d3 d4 h78 hbl hb4 hbD
 go_wp2_with ((with_reducible refine zg rfl _ _ _ rfl ?_);refine⟨b,1+G,_,c,_,t,_,.u8,rfl,rfl,om,zk hG64,size_u8A,hMc,?_⟩;intro W5 hP5 hM5;replace hMc:=hM5;clear hM5)
 replace hGc:=A.put_grown hGc hP5
 first|refine bodyPost_end (results_none rfl _ _ _) rfl ?_|refine bodyPost_ret (results_none rfl _ _ _) rfl ?_
 exact⟨rfl,⟨by rw [E.out];exact hMc,hGc⟩⟩
theorem ziq(c:Nat→Int)(F G:Nat)(p d:Int)(t:Int)(b:Nat)(w:World)(hM:A.MvAt w b c c ((F:Int),(G:Int),p,d,false) t)(hF64:F<64)(hG64:G<64)(hq:PosOk c)(hd:(d !=0)=false)(hp:(p !=0)=false)(_hp0:0≤p)(_hp1:p≤255)(tn:Nat)(ht64:tn<64)(ht:t=(tn:Int)):
  cR 52 #[.pointer (some ⟨b,0,none⟩)] w (.tuple #[]) fun w'=>A.Step b (A.men c ((F:Int),(G:Int),p,d,false) t) c ((F:Int),(G:Int),p,d,false) t w w':=by
 have E:=hid (show A.men c ((F:Int),(G:Int),p,d,false) t=(upd (upd (upd c (1+tn) 0) (1+F) 0) (1+G) (c (1+F))) by
  unfold A.men
  rw [if_neg (show¬false=true by simp),if_neg (show¬d≠0 by simpa using hd),if_neg (show¬p≠0 by simpa using hp),if_pos (show 0≤t by omega),ht]
  rfl)
 obtain⟨x0,x1⟩:=zp hq (i:=78) dc rfl
 have hmi:=underlying47
 have iF:(F:Int)<64:=by omega
 have iG:(G:Int)<64:=by omega
 have iT:(tn:Int)<64:=by omega
 have hlt:=hM.lt
 have G0:=World.grownBy.refl w (some b)
 have hrm:w.rangeAt b 176 [.int .i8 (F:Int),.int .i8 (G:Int),.int .u8 p,.int .u8 d,.bool false]:=hM.rm
 clear hq
 go_enter func52,ntmps52
 go_upto_region 6 with((with_reducible refine z8 rfl 47 _ rfl hmi rfl ?_);refine⟨b,176,_,rfl,hrm,A.cell_info ((F:Int),(G:Int),p,d,false),?_⟩)
 have hMc:=hM.alloc (.cells #[.int .i8 (F:Int),.int .i8 (G:Int),.int .u8 p,.int .u8 d,.bool false] 47)
 have hGc:w.grownBy (w.alloc (.cells #[.int .i8 (F:Int),.int .i8 (G:Int),.int .u8 p,.int .u8 d,.bool false] 47)) (some b):=A.below_step G0 bA
 have hDc:=RowAt.new w #[.int .i8 (F:Int),.int .i8 (G:Int),.int .u8 p,.int .u8 d,.bool false] 47
 obtain⟨D,hD⟩:∃D,w.heap.size=D:=⟨_,rfl⟩
 have hDb:D≠b:=by omega
 obtain⟨W1,hW1⟩:∃W1,w.alloc (.cells #[.int .i8 (F:Int),.int .i8 (G:Int),.int .u8 p,.int .u8 d,.bool false] 47)=W1:=⟨_,rfl⟩
 rw [hD]at hDc⊢
 rw [hW1]at hMc hGc hDc⊢
 clear hM hrm G0 hW1
 have d2:W1.cell? ⟨D,2,none⟩=some (.int .u8 p):=hDc.cell 2
 have d3:W1.cell? ⟨D,3,none⟩=some (.int .u8 d):=hDc.cell 3
 have d4:W1.cell? ⟨D,4,none⟩=some (.bool false):=hDc.cell 4
 have d1:W1.cell? ⟨D,1,none⟩=some (.int .i8 (G:Int)):=hDc.cell 1
 have c181:=hMc.att
 rw [ht]at c181
 go_wp2_with fail
 have hbl:=hMc.lt
 refine zl (n:=9) kr kr ?_
 simp only [List.take_succ_cons,List.take_zero,List.drop_succ_cons,List.drop_zero]
 repeat(quiet_step (fail))
 refine wpQuiet_nil ?_
 intro W2 hb2
 replace hMc:=hMc.below hb2
 replace hDc:=hDc.below hb2
 replace hGc:=A.below_step hGc hb2
 clear d1 d2 d3 d4 c181 hbl hb2
 go_upto_region 3 with((with_reducible refine zg rfl _ _ _ rfl ?_);refine⟨b,1+tn,_,c,_,t,0,.u8,rfl,rfl,om,zk ht64,size_u8A,hMc,?_⟩;intro W3 hP3 hM3;replace hMc:=hM3;clear hM3)
 replace hDc:=hP3.row hDc hDb
 replace hGc:=A.put_grown hGc hP3
 clear hP3
 simp only [Act.put]
 refine wp_region_held (S:=fun w'=>(∃q',A.MvAt w' b q' c ((F:Int),(G:Int),p,d,false) t)∧RowAt w' D 47 #[.int .i8 (F:Int),.int .i8 (G:Int),.int .u8 p,.int .u8 d,.bool false]∧w.grownBy w' (some b)) kr ?_
 have hMd:A.MvAt W3.drew b _ c ((F:Int),(G:Int),p,d,false) t:=⟨⟨hMc.row.heap⟩⟩
 have hSd:(∃q',A.MvAt W3.drew b q' c ((F:Int),(G:Int),p,d,false) t)∧RowAt W3.drew D 47 #[.int .i8 (F:Int),.int .i8 (G:Int),.int .u8 p,.int .u8 d,.bool false]∧w.grownBy W3.drew (some b):=⟨⟨_,hMd⟩,⟨hDc.heap⟩,A.below_step hGc (M.below_drew (Below.refl _ _) 1)⟩
 clear hMc hDc hGc
 refine tq 0 24 (.pointer (some ⟨b,0,none⟩)) hSd ?_
 refine tq 1 25 (.pointer (some ⟨D,0,none⟩)) hSd ?_
 refine te 2 (some 26) (.int .i8 (F:Int)) (zt kr 26 (.tmp 25) kr ⟨D,0,none⟩ kr (fun w9=>zK _ _ w9) (fun w9 h9=>(h9.2.1.cell 0))) hSd ?_
 refine tq 3 27 (.pointer (some ⟨b,0,none⟩)) hSd ?_
 refine tq 4 28 (.pointer (some ⟨D,1,none⟩)) hSd ?_
 refine te 5 (some 29) (.int .i8 (G:Int)) (zt kr 26 (.tmp 28) kr ⟨D,1,none⟩ kr (fun w9=>zK _ _ w9) (fun w9 h9=>(h9.2.1.cell 1))) hSd ?_
 refine tq 6 30 (.pointer (some ⟨b,0,none⟩)) hSd ?_
 refine tq 7 31 (.pointer (some ⟨D,0,none⟩)) hSd ?_
 refine te 8 (some 32) (.int .i8 (F:Int)) (zt kr 26 (.tmp 31) kr ⟨D,0,none⟩ kr (fun w9=>zK _ _ w9) (fun w9 h9=>(h9.2.1.cell 0))) hSd ?_
 refine tq 9 33 (.pointer (some ⟨b,0,none⟩)) hSd ?_
 refine tq 10 34 (.pointer (some ⟨b,88,none⟩)) hSd ?_
 refine tq 11 35 (.pointer (some ⟨b,89,none⟩)) hSd ?_
 refine te 12 (some 36) (.pointer (some ⟨b,89+F,none⟩)) (zo (v0:= .pointer (some ⟨b,89+F,none⟩)) kr (fun w9=>A.exec_ix (.tmp 35) (.tmp 32) (n:=F) (off:=89) (k:= .i8) kr kr kr w9 hF64) rfl) hSd ?_
 refine te 13 (some 37) (.int .u8 (c (1+F))) (zt kr 5 (.tmp 36) kr ⟨b,89+F,none⟩ kr (fun w9=>zV _ _ w9) (fun w9 h9=>(A.was_cell h9.1 F hF64))) hSd ?_
 refine tq 14 38 (.pointer (some ⟨b,0,none⟩)) hSd ?_
 refine tq 15 39 (.pointer (some ⟨b,0,none⟩)) hSd ?_
 refine tq 16 40 (.pointer (some ⟨b,1,none⟩)) hSd ?_
 refine te 17 (some 41) (.pointer (some ⟨b,1+F,none⟩)) (zo (v0:= .pointer (some ⟨b,1+F,none⟩)) kr (fun w9=>A.exec_ix (.tmp 40) (.tmp 26) (n:=F) (off:=1) (k:= .i8) kr kr kr w9 hF64) rfl) hSd ?_
 refine tq 19 42 (.pointer (some ⟨b,0,none⟩)) hSd ?_
 refine tq 20 43 (.pointer (some ⟨b,0,none⟩)) hSd ?_
 refine tq 21 44 (.pointer (some ⟨b,1,none⟩)) hSd ?_
 refine takeOne 18 kr kr kr ?_
 refine zM 5 (.tmp 41) (.const (.int .u8 0)) kr (b:=b) (i:=1+F) (n:=0) kr kr om (zk hF64) size_u8A hMd (fun u1 hPu1 hMu1=> ?_)
 have hSu1:(∃q',A.MvAt u1 b q' c ((F:Int),(G:Int),p,d,false) t)∧RowAt u1 D 47 #[.int .i8 (F:Int),.int .i8 (G:Int),.int .u8 p,.int .u8 d,.bool false]∧w.grownBy u1 (some b):=⟨⟨_,hMu1⟩,hPu1.row hSd.2.1 hDb,A.put_grown hSd.2.2 hPu1⟩
 refine⟨hSu1,?_⟩
 clear hPu1
 simp only [Act.put]
 refine tD 22 (some 45) (.pointer (some ⟨b,1+G,none⟩)) (zo (v0:= .pointer (some ⟨b,1+G,none⟩)) kr (fun w9=>A.exec_ix (.tmp 44) (.tmp 29) (n:=G) (off:=1) (k:= .i8) kr kr kr w9 hG64) rfl) hSu1 ?_
 simp only [Act.put,sA]
 refine takeOne 23 kr kr kr ?_
 refine zM 5 (.tmp 45) (.tmp 37) kr (b:=b) (i:=1+G) (n:=(c (1+F))) kr kr om (zk hG64) size_u8A hMu1 (fun u2 hPu2 hMu2=> ?_)
 have hSu2:(∃q',A.MvAt u2 b q' c ((F:Int),(G:Int),p,d,false) t)∧RowAt u2 D 47 #[.int .i8 (F:Int),.int .i8 (G:Int),.int .u8 p,.int .u8 d,.bool false]∧w.grownBy u2 (some b):=⟨⟨_,hMu2⟩,hPu2.row hSu1.2.1 hDb,A.put_grown hSu1.2.2 hPu2⟩
 refine⟨hSu2,?_⟩
 clear hPu2
 simp only [Act.put]
 refine wpAnyH_done kr ?_ _
 have hMc:=hMu2
 have hDc:=hSu2.2.1
 have hGc:=hSu2.2.2
 clear hSu1 hSu2 hMu1 hMu2 hSd hMd
 have d2:u2.cell? ⟨D,2,none⟩=some (.int .u8 p):=hDc.cell 2
 have d3:u2.cell? ⟨D,3,none⟩=some (.int .u8 d):=hDc.cell 3
 have d4:u2.cell? ⟨D,4,none⟩=some (.bool false):=hDc.cell 4
 have d1:u2.cell? ⟨D,1,none⟩=some (.int .i8 (G:Int)):=hDc.cell 1
 have h78:u2.cell? ⟨b,78,none⟩=some (.int .u8 (c 78)):=by
  have:=hMc.atq 78 dc .u8 rfl
  rwa [zT _ _ _ _ om,zT _ _ _ _ om,zT _ _ _ _ om]at this
 go_wp2_with fail
 first|refine bodyPost_end (results_none rfl _ _ _) rfl ?_|refine bodyPost_ret (results_none rfl _ _ _) rfl ?_
 exact⟨rfl,⟨by rw [E.out];exact hMc,hGc⟩⟩
theorem ziu(c:Nat→Int)(F G:Nat)(p d:Int)(t:Int)(b:Nat)(w:World)(hM:A.MvAt w b c c ((F:Int),(G:Int),p,d,false) t)(hF64:F<64)(hG64:G<64)(hq:PosOk c)(hd:(d !=0)=false)(hp:(p !=0)=true)(hp0:0≤p)(hp1:p≤255)(dt:decide (0≤t)=false):
  cR 52 #[.pointer (some ⟨b,0,none⟩)] w (.tuple #[]) fun w'=>A.Step b (A.men c ((F:Int),(G:Int),p,d,false) t) c ((F:Int),(G:Int),p,d,false) t w w':=by
 have E:=hid (show A.men c ((F:Int),(G:Int),p,d,false) t=(upd (upd (upd c (1+F) 0) (1+G) (c (1+F))) (1+G) (P.make (c 78) p)) by
  unfold A.men
  rw [if_neg (show¬false=true by simp),if_neg (show¬d≠0 by simpa using hd),if_pos (show p≠0 by simpa using hp),if_neg (of_decide_eq_false dt)]
  rfl)
 obtain⟨x0,x1⟩:=zp hq (i:=78) dc rfl
 have hmi:=underlying47
 have iF:(F:Int)<64:=by omega
 have iG:(G:Int)<64:=by omega
 skip
 have hlt:=hM.lt
 have G0:=World.grownBy.refl w (some b)
 have hrm:w.rangeAt b 176 [.int .i8 (F:Int),.int .i8 (G:Int),.int .u8 p,.int .u8 d,.bool false]:=hM.rm
 clear hq
 go_enter func52,ntmps52
 go_upto_region 6 with((with_reducible refine z8 rfl 47 _ rfl hmi rfl ?_);refine⟨b,176,_,rfl,hrm,A.cell_info ((F:Int),(G:Int),p,d,false),?_⟩)
 have hMc:=hM.alloc (.cells #[.int .i8 (F:Int),.int .i8 (G:Int),.int .u8 p,.int .u8 d,.bool false] 47)
 have hGc:w.grownBy (w.alloc (.cells #[.int .i8 (F:Int),.int .i8 (G:Int),.int .u8 p,.int .u8 d,.bool false] 47)) (some b):=A.below_step G0 bA
 have hDc:=RowAt.new w #[.int .i8 (F:Int),.int .i8 (G:Int),.int .u8 p,.int .u8 d,.bool false] 47
 obtain⟨D,hD⟩:∃D,w.heap.size=D:=⟨_,rfl⟩
 have hDb:D≠b:=by omega
 obtain⟨W1,hW1⟩:∃W1,w.alloc (.cells #[.int .i8 (F:Int),.int .i8 (G:Int),.int .u8 p,.int .u8 d,.bool false] 47)=W1:=⟨_,rfl⟩
 rw [hD]at hDc⊢
 rw [hW1]at hMc hGc hDc⊢
 clear hM hrm G0 hW1
 have d2:W1.cell? ⟨D,2,none⟩=some (.int .u8 p):=hDc.cell 2
 have d3:W1.cell? ⟨D,3,none⟩=some (.int .u8 d):=hDc.cell 3
 have d4:W1.cell? ⟨D,4,none⟩=some (.bool false):=hDc.cell 4
 have d1:W1.cell? ⟨D,1,none⟩=some (.int .i8 (G:Int)):=hDc.cell 1
 have c181:=hMc.att
 skip
 go_wp2_with fail
 clear d1 d2 d3 d4 c181
 refine wp_region_held (S:=fun w'=>(∃q',A.MvAt w' b q' c ((F:Int),(G:Int),p,d,false) t)∧RowAt w' D 47 #[.int .i8 (F:Int),.int .i8 (G:Int),.int .u8 p,.int .u8 d,.bool false]∧w.grownBy w' (some b)) kr ?_
 have hMd:A.MvAt W1.drew b _ c ((F:Int),(G:Int),p,d,false) t:=⟨⟨hMc.row.heap⟩⟩
 have hSd:(∃q',A.MvAt W1.drew b q' c ((F:Int),(G:Int),p,d,false) t)∧RowAt W1.drew D 47 #[.int .i8 (F:Int),.int .i8 (G:Int),.int .u8 p,.int .u8 d,.bool false]∧w.grownBy W1.drew (some b):=⟨⟨_,hMd⟩,⟨hDc.heap⟩,A.below_step hGc (M.below_drew (Below.refl _ _) 1)⟩
 clear hMc hDc hGc
 refine tq 0 24 (.pointer (some ⟨b,0,none⟩)) hSd ?_
 refine tq 1 25 (.pointer (some ⟨D,0,none⟩)) hSd ?_
 refine te 2 (some 26) (.int .i8 (F:Int)) (zt kr 26 (.tmp 25) kr ⟨D,0,none⟩ kr (fun w9=>zK _ _ w9) (fun w9 h9=>(h9.2.1.cell 0))) hSd ?_
 refine tq 3 27 (.pointer (some ⟨b,0,none⟩)) hSd ?_
 refine tq 4 28 (.pointer (some ⟨D,1,none⟩)) hSd ?_
 refine te 5 (some 29) (.int .i8 (G:Int)) (zt kr 26 (.tmp 28) kr ⟨D,1,none⟩ kr (fun w9=>zK _ _ w9) (fun w9 h9=>(h9.2.1.cell 1))) hSd ?_
 refine tq 6 30 (.pointer (some ⟨b,0,none⟩)) hSd ?_
 refine tq 7 31 (.pointer (some ⟨D,0,none⟩)) hSd ?_
 refine te 8 (some 32) (.int .i8 (F:Int)) (zt kr 26 (.tmp 31) kr ⟨D,0,none⟩ kr (fun w9=>zK _ _ w9) (fun w9 h9=>(h9.2.1.cell 0))) hSd ?_
 refine tq 9 33 (.pointer (some ⟨b,0,none⟩)) hSd ?_
 refine tq 10 34 (.pointer (some ⟨b,88,none⟩)) hSd ?_
 refine tq 11 35 (.pointer (some ⟨b,89,none⟩)) hSd ?_
 refine te 12 (some 36) (.pointer (some ⟨b,89+F,none⟩)) (zo (v0:= .pointer (some ⟨b,89+F,none⟩)) kr (fun w9=>A.exec_ix (.tmp 35) (.tmp 32) (n:=F) (off:=89) (k:= .i8) kr kr kr w9 hF64) rfl) hSd ?_
 refine te 13 (some 37) (.int .u8 (c (1+F))) (zt kr 5 (.tmp 36) kr ⟨b,89+F,none⟩ kr (fun w9=>zV _ _ w9) (fun w9 h9=>(A.was_cell h9.1 F hF64))) hSd ?_
 refine tq 14 38 (.pointer (some ⟨b,0,none⟩)) hSd ?_
 refine tq 15 39 (.pointer (some ⟨b,0,none⟩)) hSd ?_
 refine tq 16 40 (.pointer (some ⟨b,1,none⟩)) hSd ?_
 refine te 17 (some 41) (.pointer (some ⟨b,1+F,none⟩)) (zo (v0:= .pointer (some ⟨b,1+F,none⟩)) kr (fun w9=>A.exec_ix (.tmp 40) (.tmp 26) (n:=F) (off:=1) (k:= .i8) kr kr kr w9 hF64) rfl) hSd ?_
 refine tq 19 42 (.pointer (some ⟨b,0,none⟩)) hSd ?_
 refine tq 20 43 (.pointer (some ⟨b,0,none⟩)) hSd ?_
 refine tq 21 44 (.pointer (some ⟨b,1,none⟩)) hSd ?_
 refine takeOne 18 kr kr kr ?_
 refine zM 5 (.tmp 41) (.const (.int .u8 0)) kr (b:=b) (i:=1+F) (n:=0) kr kr om (zk hF64) size_u8A hMd (fun u1 hPu1 hMu1=> ?_)
 have hSu1:(∃q',A.MvAt u1 b q' c ((F:Int),(G:Int),p,d,false) t)∧RowAt u1 D 47 #[.int .i8 (F:Int),.int .i8 (G:Int),.int .u8 p,.int .u8 d,.bool false]∧w.grownBy u1 (some b):=⟨⟨_,hMu1⟩,hPu1.row hSd.2.1 hDb,A.put_grown hSd.2.2 hPu1⟩
 refine⟨hSu1,?_⟩
 clear hPu1
 simp only [Act.put]
 refine tD 22 (some 45) (.pointer (some ⟨b,1+G,none⟩)) (zo (v0:= .pointer (some ⟨b,1+G,none⟩)) kr (fun w9=>A.exec_ix (.tmp 44) (.tmp 29) (n:=G) (off:=1) (k:= .i8) kr kr kr w9 hG64) rfl) hSu1 ?_
 simp only [Act.put,sA]
 refine takeOne 23 kr kr kr ?_
 refine zM 5 (.tmp 45) (.tmp 37) kr (b:=b) (i:=1+G) (n:=(c (1+F))) kr kr om (zk hG64) size_u8A hMu1 (fun u2 hPu2 hMu2=> ?_)
 have hSu2:(∃q',A.MvAt u2 b q' c ((F:Int),(G:Int),p,d,false) t)∧RowAt u2 D 47 #[.int .i8 (F:Int),.int .i8 (G:Int),.int .u8 p,.int .u8 d,.bool false]∧w.grownBy u2 (some b):=⟨⟨_,hMu2⟩,hPu2.row hSu1.2.1 hDb,A.put_grown hSu1.2.2 hPu2⟩
 refine⟨hSu2,?_⟩
 clear hPu2
 simp only [Act.put]
 refine wpAnyH_done kr ?_ _
 have hMc:=hMu2
 have hDc:=hSu2.2.1
 have hGc:=hSu2.2.2
 clear hSu1 hSu2 hMu1 hMu2 hSd hMd
 have d2:u2.cell? ⟨D,2,none⟩=some (.int .u8 p):=hDc.cell 2
 have d3:u2.cell? ⟨D,3,none⟩=some (.int .u8 d):=hDc.cell 3
 have d4:u2.cell? ⟨D,4,none⟩=some (.bool false):=hDc.cell 4
 have d1:u2.cell? ⟨D,1,none⟩=some (.int .i8 (G:Int)):=hDc.cell 1
 have h78:u2.cell? ⟨b,78,none⟩=some (.int .u8 (c 78)):=by
  have:=hMc.atq 78 dc .u8 rfl
  rwa [zT _ _ _ _ om,zT _ _ _ _ om]at this
 go_wp2_with fail
 have hbl:=hMc.lt
 have hbD:=hDc.lt
 refine zl (n:=15) kr kr ?_
 simp only [List.take_succ_cons,List.take_zero,List.drop_succ_cons,List.drop_zero]
 repeat(quiet_step ((go_at_call 126;exact zd (A.make_b _ _ _ x0 x1 hp0 hp1))))
 refine wpQuiet_nil ?_
 intro W4 hb4
 replace hMc:=hMc.below hb4
 replace hGc:=A.below_step hGc hb4
 clear d1 d2 d3 d4 h78 hbl hb4 hbD
 go_wp2_with ((with_reducible refine zg rfl _ _ _ rfl ?_);refine⟨b,1+G,_,c,_,t,_,.u8,rfl,rfl,om,zk hG64,size_u8A,hMc,?_⟩;intro W5 hP5 hM5;replace hMc:=hM5;clear hM5)
 replace hGc:=A.put_grown hGc hP5
 first|refine bodyPost_end (results_none rfl _ _ _) rfl ?_|refine bodyPost_ret (results_none rfl _ _ _) rfl ?_
 exact⟨rfl,⟨by rw [E.out];exact hMc,hGc⟩⟩
theorem zja(c:Nat→Int)(F G:Nat)(p d:Int)(t:Int)(b:Nat)(w:World)(hM:A.MvAt w b c c ((F:Int),(G:Int),p,d,false) t)(hF64:F<64)(hG64:G<64)(hq:PosOk c)(hd:(d !=0)=false)(hp:(p !=0)=false)(_hp0:0≤p)(_hp1:p≤255)(dt:decide (0≤t)=false):
  cR 52 #[.pointer (some ⟨b,0,none⟩)] w (.tuple #[]) fun w'=>A.Step b (A.men c ((F:Int),(G:Int),p,d,false) t) c ((F:Int),(G:Int),p,d,false) t w w':=by
 have E:=hid (show A.men c ((F:Int),(G:Int),p,d,false) t=(upd (upd c (1+F) 0) (1+G) (c (1+F))) by
  unfold A.men
  rw [if_neg (show¬false=true by simp),if_neg (show¬d≠0 by simpa using hd),if_neg (show¬p≠0 by simpa using hp),if_neg (of_decide_eq_false dt)]
  rfl)
 obtain⟨x0,x1⟩:=zp hq (i:=78) dc rfl
 have hmi:=underlying47
 have iF:(F:Int)<64:=by omega
 have iG:(G:Int)<64:=by omega
 skip
 have hlt:=hM.lt
 have G0:=World.grownBy.refl w (some b)
 have hrm:w.rangeAt b 176 [.int .i8 (F:Int),.int .i8 (G:Int),.int .u8 p,.int .u8 d,.bool false]:=hM.rm
 clear hq
 go_enter func52,ntmps52
 go_upto_region 6 with((with_reducible refine z8 rfl 47 _ rfl hmi rfl ?_);refine⟨b,176,_,rfl,hrm,A.cell_info ((F:Int),(G:Int),p,d,false),?_⟩)
 have hMc:=hM.alloc (.cells #[.int .i8 (F:Int),.int .i8 (G:Int),.int .u8 p,.int .u8 d,.bool false] 47)
 have hGc:w.grownBy (w.alloc (.cells #[.int .i8 (F:Int),.int .i8 (G:Int),.int .u8 p,.int .u8 d,.bool false] 47)) (some b):=A.below_step G0 bA
 have hDc:=RowAt.new w #[.int .i8 (F:Int),.int .i8 (G:Int),.int .u8 p,.int .u8 d,.bool false] 47
 obtain⟨D,hD⟩:∃D,w.heap.size=D:=⟨_,rfl⟩
 have hDb:D≠b:=by omega
 obtain⟨W1,hW1⟩:∃W1,w.alloc (.cells #[.int .i8 (F:Int),.int .i8 (G:Int),.int .u8 p,.int .u8 d,.bool false] 47)=W1:=⟨_,rfl⟩
 rw [hD]at hDc⊢
 rw [hW1]at hMc hGc hDc⊢
 clear hM hrm G0 hW1
 have d2:W1.cell? ⟨D,2,none⟩=some (.int .u8 p):=hDc.cell 2
 have d3:W1.cell? ⟨D,3,none⟩=some (.int .u8 d):=hDc.cell 3
 have d4:W1.cell? ⟨D,4,none⟩=some (.bool false):=hDc.cell 4
 have d1:W1.cell? ⟨D,1,none⟩=some (.int .i8 (G:Int)):=hDc.cell 1
 have c181:=hMc.att
 skip
 go_wp2_with fail
 clear d1 d2 d3 d4 c181
 refine wp_region_held (S:=fun w'=>(∃q',A.MvAt w' b q' c ((F:Int),(G:Int),p,d,false) t)∧RowAt w' D 47 #[.int .i8 (F:Int),.int .i8 (G:Int),.int .u8 p,.int .u8 d,.bool false]∧w.grownBy w' (some b)) kr ?_
 have hMd:A.MvAt W1.drew b _ c ((F:Int),(G:Int),p,d,false) t:=⟨⟨hMc.row.heap⟩⟩
 have hSd:(∃q',A.MvAt W1.drew b q' c ((F:Int),(G:Int),p,d,false) t)∧RowAt W1.drew D 47 #[.int .i8 (F:Int),.int .i8 (G:Int),.int .u8 p,.int .u8 d,.bool false]∧w.grownBy W1.drew (some b):=⟨⟨_,hMd⟩,⟨hDc.heap⟩,A.below_step hGc (M.below_drew (Below.refl _ _) 1)⟩
 clear hMc hDc hGc
 refine tq 0 24 (.pointer (some ⟨b,0,none⟩)) hSd ?_
 refine tq 1 25 (.pointer (some ⟨D,0,none⟩)) hSd ?_
 refine te 2 (some 26) (.int .i8 (F:Int)) (zt kr 26 (.tmp 25) kr ⟨D,0,none⟩ kr (fun w9=>zK _ _ w9) (fun w9 h9=>(h9.2.1.cell 0))) hSd ?_
 refine tq 3 27 (.pointer (some ⟨b,0,none⟩)) hSd ?_
 refine tq 4 28 (.pointer (some ⟨D,1,none⟩)) hSd ?_
 refine te 5 (some 29) (.int .i8 (G:Int)) (zt kr 26 (.tmp 28) kr ⟨D,1,none⟩ kr (fun w9=>zK _ _ w9) (fun w9 h9=>(h9.2.1.cell 1))) hSd ?_
 refine tq 6 30 (.pointer (some ⟨b,0,none⟩)) hSd ?_
 refine tq 7 31 (.pointer (some ⟨D,0,none⟩)) hSd ?_
 refine te 8 (some 32) (.int .i8 (F:Int)) (zt kr 26 (.tmp 31) kr ⟨D,0,none⟩ kr (fun w9=>zK _ _ w9) (fun w9 h9=>(h9.2.1.cell 0))) hSd ?_
 refine tq 9 33 (.pointer (some ⟨b,0,none⟩)) hSd ?_
 refine tq 10 34 (.pointer (some ⟨b,88,none⟩)) hSd ?_
 refine tq 11 35 (.pointer (some ⟨b,89,none⟩)) hSd ?_
 refine te 12 (some 36) (.pointer (some ⟨b,89+F,none⟩)) (zo (v0:= .pointer (some ⟨b,89+F,none⟩)) kr (fun w9=>A.exec_ix (.tmp 35) (.tmp 32) (n:=F) (off:=89) (k:= .i8) kr kr kr w9 hF64) rfl) hSd ?_
 refine te 13 (some 37) (.int .u8 (c (1+F))) (zt kr 5 (.tmp 36) kr ⟨b,89+F,none⟩ kr (fun w9=>zV _ _ w9) (fun w9 h9=>(A.was_cell h9.1 F hF64))) hSd ?_
 refine tq 14 38 (.pointer (some ⟨b,0,none⟩)) hSd ?_
 refine tq 15 39 (.pointer (some ⟨b,0,none⟩)) hSd ?_
 refine tq 16 40 (.pointer (some ⟨b,1,none⟩)) hSd ?_
 refine te 17 (some 41) (.pointer (some ⟨b,1+F,none⟩)) (zo (v0:= .pointer (some ⟨b,1+F,none⟩)) kr (fun w9=>A.exec_ix (.tmp 40) (.tmp 26) (n:=F) (off:=1) (k:= .i8) kr kr kr w9 hF64) rfl) hSd ?_
 refine tq 19 42 (.pointer (some ⟨b,0,none⟩)) hSd ?_
 refine tq 20 43 (.pointer (some ⟨b,0,none⟩)) hSd ?_
 refine tq 21 44 (.pointer (some ⟨b,1,none⟩)) hSd ?_
 refine takeOne 18 kr kr kr ?_
 refine zM 5 (.tmp 41) (.const (.int .u8 0)) kr (b:=b) (i:=1+F) (n:=0) kr kr om (zk hF64) size_u8A hMd (fun u1 hPu1 hMu1=> ?_)
 have hSu1:(∃q',A.MvAt u1 b q' c ((F:Int),(G:Int),p,d,false) t)∧RowAt u1 D 47 #[.int .i8 (F:Int),.int .i8 (G:Int),.int .u8 p,.int .u8 d,.bool false]∧w.grownBy u1 (some b):=⟨⟨_,hMu1⟩,hPu1.row hSd.2.1 hDb,A.put_grown hSd.2.2 hPu1⟩
 refine⟨hSu1,?_⟩
 clear hPu1
 simp only [Act.put]
 refine tD 22 (some 45) (.pointer (some ⟨b,1+G,none⟩)) (zo (v0:= .pointer (some ⟨b,1+G,none⟩)) kr (fun w9=>A.exec_ix (.tmp 44) (.tmp 29) (n:=G) (off:=1) (k:= .i8) kr kr kr w9 hG64) rfl) hSu1 ?_
 simp only [Act.put,sA]
 refine takeOne 23 kr kr kr ?_
 refine zM 5 (.tmp 45) (.tmp 37) kr (b:=b) (i:=1+G) (n:=(c (1+F))) kr kr om (zk hG64) size_u8A hMu1 (fun u2 hPu2 hMu2=> ?_)
 have hSu2:(∃q',A.MvAt u2 b q' c ((F:Int),(G:Int),p,d,false) t)∧RowAt u2 D 47 #[.int .i8 (F:Int),.int .i8 (G:Int),.int .u8 p,.int .u8 d,.bool false]∧w.grownBy u2 (some b):=⟨⟨_,hMu2⟩,hPu2.row hSu1.2.1 hDb,A.put_grown hSu1.2.2 hPu2⟩
 refine⟨hSu2,?_⟩
 clear hPu2
 simp only [Act.put]
 refine wpAnyH_done kr ?_ _
 have hMc:=hMu2
 have hDc:=hSu2.2.1
 have hGc:=hSu2.2.2
 clear hSu1 hSu2 hMu1 hMu2 hSd hMd
 have d2:u2.cell? ⟨D,2,none⟩=some (.int .u8 p):=hDc.cell 2
 have d3:u2.cell? ⟨D,3,none⟩=some (.int .u8 d):=hDc.cell 3
 have d4:u2.cell? ⟨D,4,none⟩=some (.bool false):=hDc.cell 4
 have d1:u2.cell? ⟨D,1,none⟩=some (.int .i8 (G:Int)):=hDc.cell 1
 have h78:u2.cell? ⟨b,78,none⟩=some (.int .u8 (c 78)):=by
  have:=hMc.atq 78 dc .u8 rfl
  rwa [zT _ _ _ _ om,zT _ _ _ _ om]at this
 go_wp2_with fail
 first|refine bodyPost_end (results_none rfl _ _ _) rfl ?_|refine bodyPost_ret (results_none rfl _ _ _) rfl ?_
 exact⟨rfl,⟨by rw [E.out];exact hMc,hGc⟩⟩
theorem A.take_78(c:Nat→Int)(color kind:Int)(h0:0≤color):A.take c color kind 78=c 78:=by
 unfold A.take
 split
 ·rename_i h
  obtain⟨h1,h2⟩:=A.fits_cases h0 h.1
  exact zT _ _ _ _ (by unfold A.pk6;omega)
 ·rfl
theorem A.turn_cell{w':World}{b:Nat}{c:Nat→Int}{m:Mv}{t:Int}{n:Int}(h:∃q',A.MvAt w' b q' c m t∧q' 78=n):w'.cell? ⟨b,78,none⟩=some (.int .u8 n):=by
 obtain⟨q',h,e⟩:=h
 rw [←e]
 exact h.atq 78 dc .u8 rfl
theorem zfY(c:Nat→Int)(F G:Nat)(p d:Int)(t:Int)(b:Nat)(w:World)(hM:A.MvAt w b c c ((F:Int),(G:Int),p,d,false) t)(hG64:G<64)(hq:PosOk c)(hd:(d !=0)=true)(hd0:0≤d)(hd1:d≤255):
  cR 52 #[.pointer (some ⟨b,0,none⟩)] w (.tuple #[]) fun w'=>A.Step b (A.men c ((F:Int),(G:Int),p,d,false) t) c ((F:Int),(G:Int),p,d,false) t w w':=by
 have E:=hid (show A.men c ((F:Int),(G:Int),p,d,false) t=upd (A.take c (c 78) d) (1+G) (P.make (c 78) d) by
  unfold A.men
  rw [if_neg (show¬false=true by simp),if_pos (show d≠0 by simpa using hd)]
  rfl)
 obtain⟨x0,x1⟩:=zp hq (i:=78) dc rfl
 have hmi:=underlying47
 have hp31:=underlying31
 have iG:(G:Int)<64:=by omega
 have hlt:=hM.lt
 have G0:=World.grownBy.refl w (some b)
 have hrm:w.rangeAt b 176 [.int .i8 (F:Int),.int .i8 (G:Int),.int .u8 p,.int .u8 d,.bool false]:=hM.rm
 have HQ:=hid hq
 clear hq
 go_enter func52,ntmps52
 go_upto_region 6 with((with_reducible refine z8 rfl 47 _ rfl hmi rfl ?_);refine⟨b,176,_,rfl,hrm,A.cell_info ((F:Int),(G:Int),p,d,false),?_⟩)
 have hMc:=hM.alloc (.cells #[.int .i8 (F:Int),.int .i8 (G:Int),.int .u8 p,.int .u8 d,.bool false] 47)
 have hGc:w.grownBy (w.alloc (.cells #[.int .i8 (F:Int),.int .i8 (G:Int),.int .u8 p,.int .u8 d,.bool false] 47)) (some b):=A.below_step G0 bA
 have hDc:=RowAt.new w #[.int .i8 (F:Int),.int .i8 (G:Int),.int .u8 p,.int .u8 d,.bool false] 47
 obtain⟨D,hD⟩:∃D,w.heap.size=D:=⟨_,rfl⟩
 have hDb:D≠b:=by omega
 obtain⟨W1,hW1⟩:∃W1,w.alloc (.cells #[.int .i8 (F:Int),.int .i8 (G:Int),.int .u8 p,.int .u8 d,.bool false] 47)=W1:=⟨_,rfl⟩
 rw [hD]at hDc⊢
 rw [hW1]at hMc hGc hDc⊢
 clear hM hrm G0 hW1
 have d3:W1.cell? ⟨D,3,none⟩=some (.int .u8 d):=hDc.cell 3
 have d4:W1.cell? ⟨D,4,none⟩=some (.bool false):=hDc.cell 4
 have h78:W1.cell? ⟨b,78,none⟩=some (.int .u8 (c 78)):=hMc.atq 78 dc .u8 rfl
 have hrg:=hMc.rq
 have hbl:=hMc.lt
 have hbD:=hDc.lt
 go_wp2_with fail
 refine wp_region_held (S:=fun w'=>(∃q',A.MvAt w' b q' c ((F:Int),(G:Int),p,d,false) t∧q' 78=c 78)∧RowAt w' D 47 #[.int .i8 (F:Int),.int .i8 (G:Int),.int .u8 p,.int .u8 d,.bool false]∧w.grownBy w' (some b)) kr ?_
 have hMd:A.MvAt W1.drew b c c ((F:Int),(G:Int),p,d,false) t:=⟨⟨hMc.row.heap⟩⟩
 have hSd:(∃q',A.MvAt W1.drew b q' c ((F:Int),(G:Int),p,d,false) t∧q' 78=c 78)∧RowAt W1.drew D 47 #[.int .i8 (F:Int),.int .i8 (G:Int),.int .u8 p,.int .u8 d,.bool false]∧w.grownBy W1.drew (some b):=⟨⟨_,hMd,rfl⟩,⟨hDc.heap⟩,A.below_step hGc (M.below_drew (Below.refl _ _) 1)⟩
 clear hMc hDc hGc d3 d4 h78 hrg hbl hbD
 refine tq 0 124 (.pointer (some ⟨b,0,none⟩)) hSd ?_
 refine tq 1 125 (.pointer (some ⟨b,0,none⟩)) hSd ?_
 refine tq 2 126 (.pointer (some ⟨b,0,none⟩)) hSd ?_
 refine tq 3 127 (.pointer (some ⟨b,0,none⟩)) hSd ?_
 refine tq 5 129 (.pointer (some ⟨b,0,none⟩)) hSd ?_
 refine tq 6 130 (.pointer (some ⟨b,0,none⟩)) hSd ?_
 refine tq 7 131 (.pointer (some ⟨b,0,none⟩)) hSd ?_
 refine tq 8 132 (.pointer (some ⟨b,78,none⟩)) hSd ?_
 refine te 9 (some 133) (.int .u8 (c 78)) (zt kr 5 (.tmp 132) kr ⟨b,78,none⟩ kr (fun w9=>zV _ _ w9) (fun w9 h9=>(A.turn_cell h9.1))) hSd ?_
 refine tq 10 134 (.pointer (some ⟨D,3,none⟩)) hSd ?_
 refine te 11 (some 135) (.int .u8 d) (zt kr 5 (.tmp 134) kr ⟨D,3,none⟩ kr (fun w9=>zV _ _ w9) (fun w9 h9=>(h9.2.1.cell 3))) hSd ?_
 refine A.takeLoad 4 (some 128) 31 (.tmp 127) b 0 (posL c) kr kr kr kr kr kr hMd.rq hp31 rfl (A.posL_info c) ?_
 refine⟨hSd,?_⟩
 simp only [Act.put,sA,sB,sC]
 refine tf 12 (some 136) 125 (#[.agg (posC c),.int .u8 (c 78),.int .u8 d]) (.tuple #[.agg (posC (A.take c (c 78) d)),.bool (A.takeOk c (c 78) d)]) (fun w9=>Below W1.drew.heap.size W1.drew w9) (zgO c _ _ _ HQ x0) (fun u1 hRu1=> ?_)
 have hMu1:=hMd.below hRu1
 have hSu1:(∃q',A.MvAt u1 b q' c ((F:Int),(G:Int),p,d,false) t∧q' 78=c 78)∧RowAt u1 D 47 #[.int .i8 (F:Int),.int .i8 (G:Int),.int .u8 p,.int .u8 d,.bool false]∧w.grownBy u1 (some b):=⟨⟨_,hMu1,rfl⟩,hSd.2.1.below hRu1,A.below_step hSd.2.2 hRu1⟩
 clear hRu1
 refine⟨hSu1,?_⟩
 refine tq 13 123 (.tuple #[.agg (posC (A.take c (c 78) d)),.bool (A.takeOk c (c 78) d)]) hSu1 ?_
 refine tq 14 137 (.agg (posC (A.take c (c 78) d))) hSu1 ?_
 refine tq 15 138 (.bool (A.takeOk c (c 78) d)) hSu1 ?_
 refine tq 16 139 (.pointer (some ⟨b,0,none⟩)) hSu1 ?_
 refine tq 17 140 (.pointer (some ⟨b,0,none⟩)) hSu1 ?_
 refine A.takeStoreP 18 (.tmp 140) (.tmp 137) (b:=b) (q':=A.take c (c 78) d) kr kr kr kr kr kr kr hMu1 (fun u2 hPu2 hMu2=> ?_)
 have hSu2:(∃q',A.MvAt u2 b q' c ((F:Int),(G:Int),p,d,false) t∧q' 78=c 78)∧RowAt u2 D 47 #[.int .i8 (F:Int),.int .i8 (G:Int),.int .u8 p,.int .u8 d,.bool false]∧w.grownBy u2 (some b):=⟨⟨_,hMu2,A.take_78 _ _ _ x0⟩,hPu2.row hSu1.2.1 hDb,A.put_grown hSu1.2.2 hPu2⟩
 refine⟨hSu2,?_⟩
 clear hPu2 hMu1
 refine wpAnyH_done kr ?_ _
 have hMc:=hMu2
 have hDc:=hSu2.2.1
 have hGc:=hSu2.2.2
 clear hSu2 hMu2 hSu1 hMd hSd
 go_upto_region 12 with fail
 obtain⟨W3,hW3⟩:∃W3,u2=W3:=⟨_,rfl⟩
 rw [hW3]at hMc hDc hGc⊢
 clear hW3
 have d3:W3.cell? ⟨D,3,none⟩=some (.int .u8 d):=hDc.cell 3
 have d1:W3.cell? ⟨D,1,none⟩=some (.int .i8 (G:Int)):=hDc.cell 1
 have h78:W3.cell? ⟨b,78,none⟩=some (.int .u8 (c 78)):=by
  have:=hMc.atq 78 dc .u8 rfl
  rwa [A.take_78 _ _ _ x0]at this
 have hbl:=hMc.lt
 have hbD:=hDc.lt
 refine zl (n:=15) kr kr ?_
 simp only [List.take_succ_cons,List.take_zero,List.drop_succ_cons,List.drop_zero]
 repeat(quiet_step ((go_at_call 126;exact zd (A.make_b _ _ _ x0 x1 hd0 hd1))))
 refine wpQuiet_nil ?_
 intro W4 hb4
 replace hMc:=hMc.below hb4
 replace hGc:=A.below_step hGc hb4
 clear d1 d3 h78 hbl hb4 hbD
 go_wp2_with ((with_reducible refine zg rfl _ _ _ rfl ?_);refine⟨b,1+G,_,c,_,t,_,.u8,rfl,rfl,om,zk hG64,size_u8A,hMc,?_⟩;intro W5 hP5 hM5;replace hMc:=hM5;clear hM5)
 replace hGc:=A.put_grown hGc hP5
 first|refine bodyPost_end (results_none rfl _ _ _) rfl ?_|refine bodyPost_ret (results_none rfl _ _ _) rfl ?_
 exact⟨rfl,⟨by rw [E.out];exact hMc,hGc⟩⟩
theorem zdZ(c:Nat→Int)(F G:Nat)(p d:Int)(t:Int)(b:Nat)(w:World)(hM:A.MvAt w b c c ((F:Int),(G:Int),p,d,true) t)(hG64:G<64)(hq:PosOk c)(hF64:F<64)(kg rg:Nat)(hkg64:kg<64)(hrg64:rg<64)(hgo:T.goalsV c (T.side c F G true)= .tuple #[.int .i64 (kg:Int),.int .i64 (rg:Int),.bool true])(hkA:A.kg c ((F:Int),(G:Int),p,d,true)=kg)(hrA:A.rg c ((F:Int),(G:Int),p,d,true)=rg):
  cR 52 #[.pointer (some ⟨b,0,none⟩)] w (.tuple #[]) fun w'=>A.Step b (A.men c ((F:Int),(G:Int),p,d,true) t) c ((F:Int),(G:Int),p,d,true) t w w':=by
 have E:=hid (show A.men c ((F:Int),(G:Int),p,d,true) t=upd (upd (upd (upd c (1+F) 0) (1+G) 0) (1+kg) (c (1+F))) (1+rg) (c (1+G)) by
  unfold A.men
  rw [if_pos rfl,hkA,hrA]
  rfl)
 obtain⟨x0,x1⟩:=zp hq (i:=78) dc rfl
 have hmi:=underlying47
 have hp31:=underlying31
 have iG:(G:Int)<64:=by omega
 have hlt:=hM.lt
 have G0:=World.grownBy.refl w (some b)
 have hrm:w.rangeAt b 176 [.int .i8 (F:Int),.int .i8 (G:Int),.int .u8 p,.int .u8 d,.bool true]:=hM.rm
 have HQ:=hid hq
 clear hq
 go_enter func52,ntmps52
 go_upto_region 6 with((with_reducible refine z8 rfl 47 _ rfl hmi rfl ?_);refine⟨b,176,_,rfl,hrm,A.cell_info ((F:Int),(G:Int),p,d,true),?_⟩)
 have hMc:=hM.alloc (.cells #[.int .i8 (F:Int),.int .i8 (G:Int),.int .u8 p,.int .u8 d,.bool true] 47)
 have hGc:w.grownBy (w.alloc (.cells #[.int .i8 (F:Int),.int .i8 (G:Int),.int .u8 p,.int .u8 d,.bool true] 47)) (some b):=A.below_step G0 bA
 have hDc:=RowAt.new w #[.int .i8 (F:Int),.int .i8 (G:Int),.int .u8 p,.int .u8 d,.bool true] 47
 obtain⟨D,hD⟩:∃D,w.heap.size=D:=⟨_,rfl⟩
 have hDb:D≠b:=by omega
 obtain⟨W1,hW1⟩:∃W1,w.alloc (.cells #[.int .i8 (F:Int),.int .i8 (G:Int),.int .u8 p,.int .u8 d,.bool true] 47)=W1:=⟨_,rfl⟩
 rw [hD]at hDc⊢
 rw [hW1]at hMc hGc hDc⊢
 clear hM hrm G0 hW1
 have HGo:Hid (∀W,cB 124 #[.agg (posC c),.agg #[.int .i8 (F:Int),.int .i8 (G:Int),.int .u8 p,.int .u8 d,.bool true]] W (.tuple #[.int .i64 (kg:Int),.int .i64 (rg:Int),.bool true])):=hid (fun W=>by
  have:=zbU c (F:Int) (G:Int) p d true W HQ om om
  rwa [hgo]at this)
 have d4:W1.cell? ⟨D,4,none⟩=some (.bool true):=hDc.cell 4
 have hrc:=hMc.rc
 have hrD:W1.rangeAt D 0 [.int .i8 (F:Int),.int .i8 (G:Int),.int .u8 p,.int .u8 d,.bool true]:=fun j v hj=>by
  rw [Nat.zero_add,hDc.cell,List.getElem?_toArray];exact hj
 have hbl:=hMc.lt
 have hbD:=hDc.lt
 clear hgo hkA hrA
 go_wp2_with fail
 refine rB ?_
 repeat(first
  |(go_big_quiet_want;refine zm 31 _ rfl hp31 rfl ⟨b,88,posL c,rfl,hrc,A.posL_info _,?_⟩;simp only [Act.put,sA,sB,sC];go_big_quiet_on)
  |(go_big_quiet_want;refine zm 47 _ rfl hmi rfl ⟨D,0,_,rfl,hrD,A.cell_info ((F:Int),(G:Int),p,d,true),?_⟩;simp only [Act.put,sA,sB,sC];go_big_quiet_on)
  |go_big_quiet_step (first
   |(go_at_call 124;exact zd (HGo _))))
 refine wpQuiet_nil ?_
 intro W2 hb2
 replace hMc:=hMc.below hb2
 replace hDc:=hDc.below hb2
 replace hGc:=A.below_step hGc hb2
 clear d4 hrc hrD hbl hbD hb2
 go_wp2_with fail
 refine wp_region_held (S:=fun w'=>(∃q',A.MvAt w' b q' c ((F:Int),(G:Int),p,d,true) t)∧RowAt w' D 47 #[.int .i8 (F:Int),.int .i8 (G:Int),.int .u8 p,.int .u8 d,.bool true]∧w.grownBy w' (some b)) kr ?_
 have hMd:A.MvAt W2.drew b _ c ((F:Int),(G:Int),p,d,true) t:=⟨⟨hMc.row.heap⟩⟩
 have hSd:(∃q',A.MvAt W2.drew b q' c ((F:Int),(G:Int),p,d,true) t)∧RowAt W2.drew D 47 #[.int .i8 (F:Int),.int .i8 (G:Int),.int .u8 p,.int .u8 d,.bool true]∧w.grownBy W2.drew (some b):=⟨⟨_,hMd⟩,⟨hDc.heap⟩,A.below_step hGc (M.below_drew (Below.refl _ _) 1)⟩
 clear hMc hDc hGc
 refine tq 0 77 (.pointer (some ⟨b,0,none⟩)) hSd ?_
 refine tq 1 78 (.pointer (some ⟨D,0,none⟩)) hSd ?_
 refine te 2 (some 79) (.int .i8 (F:Int)) (zt kr 26 (.tmp 78) kr ⟨D,0,none⟩ kr (fun w9=>zK _ _ w9) (fun w9 h9=>(h9.2.1.cell 0))) hSd ?_
 refine tq 3 80 (.pointer (some ⟨b,0,none⟩)) hSd ?_
 refine tq 4 81 (.pointer (some ⟨D,1,none⟩)) hSd ?_
 refine te 5 (some 82) (.int .i8 (G:Int)) (zt kr 26 (.tmp 81) kr ⟨D,1,none⟩ kr (fun w9=>zK _ _ w9) (fun w9 h9=>(h9.2.1.cell 1))) hSd ?_
 refine tq 6 83 (.pointer (some ⟨b,0,none⟩)) hSd ?_
 refine tq 7 84 (.pointer (some ⟨b,0,none⟩)) hSd ?_
 refine tq 8 85 (.pointer (some ⟨b,1,none⟩)) hSd ?_
 refine te 9 (some 86) (.pointer (some ⟨b,1+F,none⟩)) (zo (v0:= .pointer (some ⟨b,1+F,none⟩)) kr (fun w9=>A.exec_ix (.tmp 85) (.tmp 79) (n:=F) (off:=1) (k:= .i8) kr kr kr w9 hF64) rfl) hSd ?_
 refine tq 11 87 (.pointer (some ⟨b,0,none⟩)) hSd ?_
 refine tq 12 88 (.pointer (some ⟨b,0,none⟩)) hSd ?_
 refine tq 13 89 (.pointer (some ⟨b,1,none⟩)) hSd ?_
 refine A.takeStoreQ 10 5 (.tmp 86) (.const (.int .u8 0)) (b:=b) (j:=1+F) (n:=0) kr kr kr kr kr kr kr om (zk hF64) size_u8A hMd (fun u1 hPu1 hMu1=> ?_)
 have hSu1:(∃q',A.MvAt u1 b q' c ((F:Int),(G:Int),p,d,true) t)∧RowAt u1 D 47 #[.int .i8 (F:Int),.int .i8 (G:Int),.int .u8 p,.int .u8 d,.bool true]∧w.grownBy u1 (some b):=⟨⟨_,hMu1⟩,hPu1.row hSd.2.1 hDb,A.put_grown hSd.2.2 hPu1⟩
 refine⟨hSu1,?_⟩
 clear hPu1
 refine te 14 (some 90) (.pointer (some ⟨b,1+G,none⟩)) (zo (v0:= .pointer (some ⟨b,1+G,none⟩)) kr (fun w9=>A.exec_ix (.tmp 89) (.tmp 82) (n:=G) (off:=1) (k:= .i8) kr kr kr w9 hG64) rfl) hSu1 ?_
 refine A.takeStoreQ 15 5 (.tmp 90) (.const (.int .u8 0)) (b:=b) (j:=1+G) (n:=0) kr kr kr kr kr kr kr om (zk hG64) size_u8A hMu1 (fun u2 hPu2 hMu2=> ?_)
 have hSu2:(∃q',A.MvAt u2 b q' c ((F:Int),(G:Int),p,d,true) t)∧RowAt u2 D 47 #[.int .i8 (F:Int),.int .i8 (G:Int),.int .u8 p,.int .u8 d,.bool true]∧w.grownBy u2 (some b):=⟨⟨_,hMu2⟩,hPu2.row hSu1.2.1 hDb,A.put_grown hSu1.2.2 hPu2⟩
 refine⟨hSu2,?_⟩
 clear hPu2
 refine wpAnyH_done kr ?_ _
 have hMc:=hMu2
 have hDc:=hSu2.2.1
 have hGc:=hSu2.2.2
 clear hSu1 hSu2 hMu1 hMu2 hSd hMd
 go_wp2_with fail
 refine wp_region_held (S:=fun w'=>(∃q',A.MvAt w' b q' c ((F:Int),(G:Int),p,d,true) t)∧RowAt w' D 47 #[.int .i8 (F:Int),.int .i8 (G:Int),.int .u8 p,.int .u8 d,.bool true]∧w.grownBy w' (some b)) kr ?_
 have hMd:A.MvAt u2.drew b _ c ((F:Int),(G:Int),p,d,true) t:=⟨⟨hMc.row.heap⟩⟩
 have hSd:(∃q',A.MvAt u2.drew b q' c ((F:Int),(G:Int),p,d,true) t)∧RowAt u2.drew D 47 #[.int .i8 (F:Int),.int .i8 (G:Int),.int .u8 p,.int .u8 d,.bool true]∧w.grownBy u2.drew (some b):=⟨⟨_,hMd⟩,⟨hDc.heap⟩,A.below_step hGc (M.below_drew (Below.refl _ _) 1)⟩
 clear hMc hDc hGc
 refine tq 0 91 (.pointer (some ⟨b,0,none⟩)) hSd ?_
 refine tq 1 92 (.int .i64 (kg:Int)) hSd ?_
 refine tq 2 93 (.pointer (some ⟨b,0,none⟩)) hSd ?_
 refine tq 3 94 (.int .i64 (rg:Int)) hSd ?_
 refine tq 4 95 (.pointer (some ⟨b,0,none⟩)) hSd ?_
 refine tq 5 96 (.pointer (some ⟨D,0,none⟩)) hSd ?_
 refine te 6 (some 97) (.int .i8 (F:Int)) (zt kr 26 (.tmp 96) kr ⟨D,0,none⟩ kr (fun w9=>zK _ _ w9) (fun w9 h9=>(h9.2.1.cell 0))) hSd ?_
 refine tq 7 98 (.pointer (some ⟨b,0,none⟩)) hSd ?_
 refine tq 8 99 (.pointer (some ⟨b,88,none⟩)) hSd ?_
 refine tq 9 100 (.pointer (some ⟨b,89,none⟩)) hSd ?_
 refine te 10 (some 101) (.pointer (some ⟨b,89+F,none⟩)) (zo (v0:= .pointer (some ⟨b,89+F,none⟩)) kr (fun w9=>A.exec_ix (.tmp 100) (.tmp 97) (n:=F) (off:=89) (k:= .i8) kr kr kr w9 hF64) rfl) hSd ?_
 refine te 11 (some 102) (.int .u8 (c (1+F))) (zt kr 5 (.tmp 101) kr ⟨b,89+F,none⟩ kr (fun w9=>zV _ _ w9) (fun w9 h9=>(A.was_cell h9.1 F hF64))) hSd ?_
 refine tq 12 103 (.pointer (some ⟨b,0,none⟩)) hSd ?_
 refine tq 13 104 (.pointer (some ⟨D,1,none⟩)) hSd ?_
 refine te 14 (some 105) (.int .i8 (G:Int)) (zt kr 26 (.tmp 104) kr ⟨D,1,none⟩ kr (fun w9=>zK _ _ w9) (fun w9 h9=>(h9.2.1.cell 1))) hSd ?_
 refine tq 15 106 (.pointer (some ⟨b,0,none⟩)) hSd ?_
 refine tq 16 107 (.pointer (some ⟨b,88,none⟩)) hSd ?_
 refine tq 17 108 (.pointer (some ⟨b,89,none⟩)) hSd ?_
 refine te 18 (some 109) (.pointer (some ⟨b,89+G,none⟩)) (zo (v0:= .pointer (some ⟨b,89+G,none⟩)) kr (fun w9=>A.exec_ix (.tmp 108) (.tmp 105) (n:=G) (off:=89) (k:= .i8) kr kr kr w9 hG64) rfl) hSd ?_
 refine te 19 (some 110) (.int .u8 (c (1+G))) (zt kr 5 (.tmp 109) kr ⟨b,89+G,none⟩ kr (fun w9=>zV _ _ w9) (fun w9 h9=>(A.was_cell h9.1 G hG64))) hSd ?_
 refine tq 20 111 (.pointer (some ⟨b,0,none⟩)) hSd ?_
 refine tq 21 112 (.pointer (some ⟨b,0,none⟩)) hSd ?_
 refine tq 22 113 (.pointer (some ⟨b,1,none⟩)) hSd ?_
 refine te 23 (some 114) (.pointer (some ⟨b,1+kg,none⟩)) (zo (v0:= .pointer (some ⟨b,1+kg,none⟩)) kr (fun w9=>A.exec_ix (.tmp 113) (.tmp 92) (n:=kg) (off:=1) (k:= .i64) kr kr kr w9 hkg64) rfl) hSd ?_
 refine tq 25 115 (.pointer (some ⟨b,0,none⟩)) hSd ?_
 refine tq 26 116 (.pointer (some ⟨b,0,none⟩)) hSd ?_
 refine tq 27 117 (.pointer (some ⟨b,1,none⟩)) hSd ?_
 refine A.takeStoreQ 24 5 (.tmp 114) (.tmp 102) (b:=b) (j:=1+kg) (n:=(c (1+F))) kr kr kr kr kr kr kr om (zk hkg64) size_u8A hMd (fun u3 hPu3 hMu3=> ?_)
 have hSu3:(∃q',A.MvAt u3 b q' c ((F:Int),(G:Int),p,d,true) t)∧RowAt u3 D 47 #[.int .i8 (F:Int),.int .i8 (G:Int),.int .u8 p,.int .u8 d,.bool true]∧w.grownBy u3 (some b):=⟨⟨_,hMu3⟩,hPu3.row hSd.2.1 hDb,A.put_grown hSd.2.2 hPu3⟩
 refine⟨hSu3,?_⟩
 clear hPu3
 refine te 28 (some 118) (.pointer (some ⟨b,1+rg,none⟩)) (zo (v0:= .pointer (some ⟨b,1+rg,none⟩)) kr (fun w9=>A.exec_ix (.tmp 117) (.tmp 94) (n:=rg) (off:=1) (k:= .i64) kr kr kr w9 hrg64) rfl) hSu3 ?_
 refine A.takeStoreQ 29 5 (.tmp 118) (.tmp 110) (b:=b) (j:=1+rg) (n:=(c (1+G))) kr kr kr kr kr kr kr om (zk hrg64) size_u8A hMu3 (fun u4 hPu4 hMu4=> ?_)
 have hSu4:(∃q',A.MvAt u4 b q' c ((F:Int),(G:Int),p,d,true) t)∧RowAt u4 D 47 #[.int .i8 (F:Int),.int .i8 (G:Int),.int .u8 p,.int .u8 d,.bool true]∧w.grownBy u4 (some b):=⟨⟨_,hMu4⟩,hPu4.row hSu3.2.1 hDb,A.put_grown hSu3.2.2 hPu4⟩
 refine⟨hSu4,?_⟩
 clear hPu4
 refine wpAnyH_done kr ?_ _
 have hMc:=hMu4
 have hGc:=hSu4.2.2
 clear hSu3 hSu4 hMu3 hMu4 hSd hMd
 go_wp2_with fail
 first|refine bodyPost_end (results_none rfl _ _ _) rfl ?_|refine bodyPost_ret (results_none rfl _ _ _) rfl ?_
 exact⟨rfl,⟨by rw [E.out];exact hMc,hGc⟩⟩
end Go.Proofs.YtbakeajgolhkgaaGreatDoor
