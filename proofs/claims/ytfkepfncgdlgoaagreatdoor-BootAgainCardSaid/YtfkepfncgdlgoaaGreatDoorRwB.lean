/- The walks of kernel.walk at "f". The walks of kernel.opened. fs.Write at the file "f" that is empty: what it leaves. -/
import Derived.Test.YtfkepfncgdlgoaaGreatDoorKfA
import Derived.Test.YtfkepfncgdlgoaaGreatDoorFwD
namespace Go.Proofs.YtfkepfncgdlgoaaGreatDoor
open Go.RowKit Go.Maps
set_option linter.unusedVariables false
set_option linter.unusedSimpArgs false
set_option maxRecDepth 100000
set_option maxHeartbeats 1000000
theorem results_tct {fn:Func} {t p u:Tmp} {ty:TypeId}(h:fn.results=#[.tmp t,.cell p ty,.tmp u]) (tmps:Array Value) (P:Program) (w:World) :
  (results fn tmps).run P w=((asAddr (tmps.getD p undef)).run P w).andThen fun a w1=>((loadVar ty a).run P w1).andThen fun v w2=>.ok (.tuple #[tmps.getD t undef,v,tmps.getD u undef]) w2:=by
 unfold results
 rw[h]
 simp
theorem bd_sta (ps:Array (Nat×Value)):Instr.build 33 ps=bdR 33 ps:=rfl
theorem bd_sta_run (w:World):(bdR 33 #[]).run Tryz.prog w=.ok (.agg (stA nd0)) w:=by kernel_rfl
theorem Row.stS' {w:World} {b:Nat} {n n':Nd}(h:Row w b 33 (stA n)):(stR 33 (.pointer (some ⟨b,0,none⟩)) (.agg (stA n'))).run Tryz.prog w=.ok () (w.setRow b (stA n')):=h.st0 rfl (by kernel_rfl) (by simp[stA,Value.oneCell'])
theorem Row.ldVS {w:World} {b:Nat} {n:Nd}(h:Row w b 33 (stA n)):(loadVar 33 ⟨b,0,none⟩).run Tryz.prog w=.ok (.agg (stA n)) w:=h.ldV Tryz.underlying33 rfl (by unfold stA;kernel_rfl)
theorem Row.ldS {w:World} {b:Nat} {n:Nd}(h:Row w b 33 (stA n)):(ldR 33 (.pointer (some ⟨b,0,none⟩))).run Tryz.prog w=.ok (.agg (stA n)) w:=h.ld0 Tryz.underlying33 rfl (by unfold stA;kernel_rfl)
section
variable {w:World} {k:KC} {s:KSt} {fc:FC} {x:FM} {p:Nat} {U K:Int} {a:Option Addr} {cap gc cc:Nat}
attribute [local go_sem ↓] ld_sta st_sta ld_crd bd_sta
attribute [local go_sem] stS_new
theorem kwalkN_is (h:KF w k s fc x) (q:Who w s p U K a cap gc cc)(hk:(x.nd 0).k=2)(hp:(x.nd 0).ps=[])(hs:(x.nd 0).sz=0)
  (hM:∀w,Calls Tryz.prog 167 #[.agg (stA (x.nd 0)),.agg (crA U K a cap),.int .i64 4] w fun e w'=>e=.returned (.tuple #[.bool true,.int .i64 0])∧Below w.heap.size w w') :
  Calls Tryz.prog 85 #[.pointer (some ⟨k.K,0,none⟩),.int .i64 p,.string ⟨#[102]⟩] w fun e w'=>e=.returned (.tuple #[.slice none 0 0,.agg (stA nd0),.int .i64 4])∧Below w.heap.size w w':=by
 have HB0:=Lib.hid (Go.Joins.below_alloc1 w (.cells #[.int .i64 0,.int .i64 0,.int .i64 0,.int .i64 0,.int .i64 0,.int .i64 0] 33))
 have HR0:Hid (Row (w.alloc (.cells #[.int .i64 0,.int .i64 0,.int .i64 0,.int .i64 0,.int .i64 0,.int .i64 0] 33)) w.heap.size 33 (stA nd0)):=Lib.hid (row_new w 33 (stA nd0))
 have HPW:=Lib.hid (fun wx (hb:Below w.heap.size w wx)=>pWalkN_is (h.keep hb).fs hk hp hs q.hU q.hK q.hc (q.keep hb).g q.c1 q.c2 hM)
 have HL:Hid (∀wx,Below w.heap.size w wx→(wx.cell? ⟨k.K,2,none⟩=some (.pointer (some ⟨fc.F,0,none⟩))∧wx.cell? ⟨k.K,8+p*38+18,none⟩=some (.slice none 0 0)∧(ldR 56 (.pointer (some ⟨k.K,8+p*38+11,none⟩))).run Tryz.prog wx=.ok (.agg (crA U K a cap)) wx∧wx.cell? ⟨k.K,8+p*38+17,none⟩=some (.slice (some ⟨gc,0,none⟩) 1 cc))):=Lib.hid (fun wx hb=>⟨(h.keep hb).fsp,by rw[(h.keep hb).kt.kr.cell (by have:=q.p16;omega),q.mt],(h.keep hb).ldcr (q.keep hb),by rw[(h.keep hb).kt.kr.cell (by have:=q.p16;omega),q.wd]⟩)
 have i17:(p:Int)<17:=by have:=q.p16;omega
 clear h q hM hk hp hs
 go_enter Tryz.func85,Tryz.ntmps85
 go_upto_region 2 with fail
 generalize w.alloc (.cells #[.int .i64 0,.int .i64 0,.int .i64 0,.int .i64 0,.int .i64 0,.int .i64 0] 33)=w0 at *
 go_region_held3 (fun wx=>wx.cell? ⟨k.K,2,none⟩=some (.pointer (some ⟨fc.F,0,none⟩))∧wx.cell? ⟨k.K,8+p*38+18,none⟩=some (.slice none 0 0)∧(ldR 56 (.pointer (some ⟨k.K,8+p*38+11,none⟩))).run Tryz.prog wx=.ok (.agg (crA U K a cap)) wx∧wx.cell? ⟨k.K,8+p*38+17,none⟩=some (.slice (some ⟨gc,0,none⟩) 1 cc)) (first|(with_reducible exact HL.out _ HB0.out)|(with_reducible exact HL.out _ HB0.out.drew)|(with_reducible exact HL.out _ HB1.out)|fail)
     (first|(go_at_call 166;(with_reducible refine(HPW.out _ HB0.out.drew).mono ?_);rintro e1 w1 ⟨rfl,hb1⟩;have HB1:=Lib.hid (HB0.out.drew.trans (hb1.mono HB0.out.drew.size));have HR1:=Lib.hid (HR0.out.drew.keep hb1);clear hb1)|fail)
 have st1:=Row.stS' (n':=nd0) HR1.out
 have lv1:=(HR1.out.setRow (stA nd0)).ldVS
 have hbd:=bd_sta_run
 clear HPW HL
 generalize hZ:stA nd0=Z at hbd st1 lv1 ⊢
 have HZ:=Lib.hid hZ
 clear hZ
 go_wp2_with fail
 exact bodyPost_ret (v:=.tuple #[.slice none 0 0,.agg Z,.int .i64 4]) (by rw[results_tct rfl];simp[asAddr,Result.andThen,lv1]) rfl ⟨by rw[HZ.out],HB1.out.trans ((Upd.setRow (S:=fun j=>j=w.heap.size) w1 Z rfl).toBelow HB1.out.size (fun k hk e=>by have e:k=w.heap.size:=e;omega))⟩
theorem kwalkF_is (h:KF w k s fc x) (q:Who w s p U K a cap gc cc)(hk:(x.nd 0).k=2) {q0:Nat}(hp:(x.nd 0).ps=[(q0:Int)])(hp0:q0≠0)(hp1:q0<256)(hs:(x.nd 0).sz=16)(hf:(fsec x q0).take 16=entL)(hk1:(x.nd 1).k=1)
  (hM:∀w,Calls Tryz.prog 167 #[.agg (stA (x.nd 0)),.agg (crA U K a cap),.int .i64 4] w fun e w'=>e=.returned (.tuple #[.bool true,.int .i64 0])∧Below w.heap.size w w') :
  Calls Tryz.prog 85 #[.pointer (some ⟨k.K,0,none⟩),.int .i64 p,.string ⟨#[102]⟩] w fun e w'=>∃g cg,e=.returned (.tuple #[.slice (some ⟨g,0,none⟩) 2 cg,.agg (stA (x.nd 1)),.int .i64 0])∧w'.cell? ⟨g,1,none⟩=some (.int .i64 2)∧2≤cg∧cg≤maxLen∧Below w.heap.size w w':=by
 have HB0:=Lib.hid (Go.Joins.below_alloc1 w (.cells #[.int .i64 0,.int .i64 0,.int .i64 0,.int .i64 0,.int .i64 0,.int .i64 0] 33))
 have HR0:Hid (Row (w.alloc (.cells #[.int .i64 0,.int .i64 0,.int .i64 0,.int .i64 0,.int .i64 0,.int .i64 0] 33)) w.heap.size 33 (stA nd0)):=Lib.hid (row_new w 33 (stA nd0))
 have HPW:=Lib.hid (fun wx (hb:Below w.heap.size w wx)=>pWalkF_is (h.keep hb).fs hk hp hp0 hp1 hs hf hk1 q.hU q.hK q.hc (q.keep hb).g q.c1 q.c2 hM)
 have HL:Hid (∀wx,Below w.heap.size w wx→(wx.cell? ⟨k.K,2,none⟩=some (.pointer (some ⟨fc.F,0,none⟩))∧wx.cell? ⟨k.K,8+p*38+18,none⟩=some (.slice none 0 0)∧(ldR 56 (.pointer (some ⟨k.K,8+p*38+11,none⟩))).run Tryz.prog wx=.ok (.agg (crA U K a cap)) wx∧wx.cell? ⟨k.K,8+p*38+17,none⟩=some (.slice (some ⟨gc,0,none⟩) 1 cc))):=Lib.hid (fun wx hb=>⟨(h.keep hb).fsp,by rw[(h.keep hb).kt.kr.cell (by have:=q.p16;omega),q.mt],(h.keep hb).ldcr (q.keep hb),by rw[(h.keep hb).kt.kr.cell (by have:=q.p16;omega),q.wd]⟩)
 have HST:=Lib.hid (fun wx (hb:Below w.heap.size w wx)=>statF_is (h.keep hb).fs (i:=1) (by decide) (n:=2) rfl (by rw[hk1];decide))
 have i17:(p:Int)<17:=by have:=q.p16;omega
 clear h q hM hk hp hs hp0 hp1 hf hk1
 generalize x.nd 1=nd at *
 go_enter Tryz.func85,Tryz.ntmps85
 go_upto_region 2 with fail
 generalize w.alloc (.cells #[.int .i64 0,.int .i64 0,.int .i64 0,.int .i64 0,.int .i64 0,.int .i64 0] 33)=w0 at *
 go_region_held3 (fun wx=>wx.cell? ⟨k.K,2,none⟩=some (.pointer (some ⟨fc.F,0,none⟩))∧wx.cell? ⟨k.K,8+p*38+18,none⟩=some (.slice none 0 0)∧(ldR 56 (.pointer (some ⟨k.K,8+p*38+11,none⟩))).run Tryz.prog wx=.ok (.agg (crA U K a cap)) wx∧wx.cell? ⟨k.K,8+p*38+17,none⟩=some (.slice (some ⟨gc,0,none⟩) 1 cc)) (first|(with_reducible exact HL.out _ HB0.out)|(with_reducible exact HL.out _ HB0.out.drew)|(with_reducible exact HL.out _ HB1.out)|fail)
     (first|(go_at_call 166;(with_reducible refine(HPW.out _ HB0.out.drew).mono ?_);rintro e1 w1 ⟨g1,c1,rfl,y1,q1,q2,hb1⟩;have HB1:=Lib.hid (HB0.out.drew.trans (hb1.mono HB0.out.drew.size));have HR1:=Lib.hid (HR0.out.drew.keep hb1);clear hb1)|fail)
 have hmx:(c1:Int)≤9223372036854775807:=by unfold maxLen at q2;omega
 have hm2:(2:Int)≤(c1:Int):=by omega
 have HQ:=Lib.hid (And.intro q1 q2)
 have hg1:g1<w1.heap.size:=World.block_lt_of_cell? w1 _ y1
 have a2:=(HL.out _ HB1.out).1
 have HZ2:=Lib.hid (fun k=>(row_new w1 33 (#[.int .i64 0,.int .i64 0,.int .i64 0,.int .i64 0,.int .i64 0,.int .i64 0]:Array Value)).keep (below_drewN (Below.refl _ _) k))
 have HBO:Hid (∀wx,Below w1.heap.size w1 wx→(Below w1.heap.size w1 wx∧wx.cell? ⟨k.K,2,none⟩=some (.pointer (some ⟨fc.F,0,none⟩))∧wx.cell? ⟨g1,1,none⟩=some (.int .i64 2))):=Lib.hid (fun wx hb=>⟨hb,(HL.out _ (HB1.out.trans (hb.mono HB1.out.size))).1,(hb.cell (p:=⟨g1,1,none⟩) hg1).trans y1⟩)
 have HS1:Hid (∀wx,Below w1.heap.size w1 wx→Calls Tryz.prog 158 #[.pointer (some ⟨fc.F,0,none⟩),.int .i64 2] wx fun e w'=>e=.returned (.tuple #[.agg (stA nd),.int .i64 0])∧Below wx.heap.size wx w'):=Lib.hid (fun wx hb=>HST.out _ (HB1.out.trans (hb.mono HB1.out.size)))
 have HZ3:=Lib.hid (fun (wx:World) (hb:Below (w1.drew.alloc (.cells #[.int .i64 0,.int .i64 0,.int .i64 0,.int .i64 0,.int .i64 0,.int .i64 0] 33)).heap.size (w1.drew.alloc (.cells #[.int .i64 0,.int .i64 0,.int .i64 0,.int .i64 0,.int .i64 0,.int .i64 0] 33)) wx)=>(show Row wx w1.heap.size 33 (#[.int .i64 0,.int .i64 0,.int .i64 0,.int .i64 0,.int .i64 0,.int .i64 0]:Array Value) from(row_new w1.drew 33 (#[.int .i64 0,.int .i64 0,.int .i64 0,.int .i64 0,.int .i64 0,.int .i64 0]:Array Value)).keep hb))
 have HZ4:=Lib.hid (fun (wx:World) (hb:Below (w1.alloc (.cells #[.int .i64 0,.int .i64 0,.int .i64 0,.int .i64 0,.int .i64 0,.int .i64 0] 33)).drew.heap.size (w1.alloc (.cells #[.int .i64 0,.int .i64 0,.int .i64 0,.int .i64 0,.int .i64 0,.int .i64 0] 33)).drew wx)=>(row_new w1 33 (#[.int .i64 0,.int .i64 0,.int .i64 0,.int .i64 0,.int .i64 0,.int .i64 0]:Array Value)).drew.keep hb)
 have HZ5:=Lib.hid (fun (wx:World) (hb:Below (w1.alloc (.cells #[.int .i64 0,.int .i64 0,.int .i64 0,.int .i64 0,.int .i64 0,.int .i64 0] 33)).heap.size (w1.alloc (.cells #[.int .i64 0,.int .i64 0,.int .i64 0,.int .i64 0,.int .i64 0,.int .i64 0] 33)) wx)=>(row_new w1 33 (#[.int .i64 0,.int .i64 0,.int .i64 0,.int .i64 0,.int .i64 0,.int .i64 0]:Array Value)).keep hb)
 clear HPW HL HST y1 q1 q2 hg1
 have yw:IntKind.i64.wrap 1=1:=by decide
 go_upto_region 5 with fail
 go_cut [11,12] (fun s3 s4 wx=>s3=.int .i64 0∧∃b9,s4=.pointer (some ⟨b9,0,none⟩)∧w1.heap.size≤b9∧Below w1.heap.size w1 wx∧Row wx b9 33 (stA nd)∧wx.cell? ⟨g1,1,none⟩=some (.int .i64 2))
 case first=>
  go_region_held3 (fun wx=>Below w1.heap.size w1 wx∧wx.cell? ⟨k.K,2,none⟩=some (.pointer (some ⟨fc.F,0,none⟩))∧wx.cell? ⟨g1,1,none⟩=some (.int .i64 2)) (first|assumption|(with_reducible exact HBO.out _ (Below.refl _ _))|(with_reducible exact HBO.out _ (Below.refl _ _).drew)|(with_reducible exact HBO.out _ (below_drewN (And.left ‹_›) _))|(with_reducible exact HBO.out _ (below_setRow (And.left ‹_›) (Nat.le_refl _) _))|(with_reducible exact HBO.out _ (Below.alloc (And.left ‹_›) (Below.size (And.left ‹_›)) _))|go_keep)
   (first|(go_at_call 158;refine(HS1.out _ (‹Below w1.heap.size w1 _∧_›).1).mono ?_;rintro e9 w9 ⟨rfl,hb9⟩;have hS:=HBO.out _ ((‹Below w1.heap.size w1 _∧_›).1.trans (hb9.mono (‹Below w1.heap.size w1 _∧_›).1.size));first|have hst:=(HZ3.out _ hb9).stS nd|have hst:=(HZ4.out _ hb9).stS nd|have hst:=(HZ5.out _ hb9).stS nd|skip))
  all_goals go_wp2
  all_goals go_meet
  all_goals first
   | exact⟨rfl,_,rfl,hS.1.size,hS.1.alloc hS.1.size _,row_new _ _ _,(HBO.out _ (hS.1.alloc hS.1.size _)).2.2⟩
   | exact⟨rfl,_,rfl,Nat.le_refl _,below_setRow hS.1 (Nat.le_refl _) _,((HZ3.out _ hb9)).setRow _,(HBO.out _ (below_setRow hS.1 (Nat.le_refl _) _)).2.2⟩
   | exact⟨rfl,_,rfl,Nat.le_refl _,below_setRow hS.1 (Nat.le_refl _) _,((HZ4.out _ hb9)).setRow _,(HBO.out _ (below_setRow hS.1 (Nat.le_refl _) _)).2.2⟩
   | exact⟨rfl,_,rfl,Nat.le_refl _,below_setRow hS.1 (Nat.le_refl _) _,((HZ5.out _ hb9)).setRow _,(HBO.out _ (below_setRow hS.1 (Nat.le_refl _) _)).2.2⟩
 case rest=>
  obtain⟨rfl,b9,rfl,hbl,hbc,hr9,y1⟩:=hcut
  have l9:=hr9.drew.ldS
  have HBC:=Lib.hid (HB1.out.trans (hbc.drew.mono HB1.out.size))
  have hlt:w.heap.size<w1.heap.size:=HR1.out.lt
  have hr0:=(HR1.out.keep hbc).drew
  have st9:=Row.stS' (n':=nd) hr0
  have lv9:=(hr0.setRow (stA nd)).ldVS
  have hne:g1≠w.heap.size:=fun e=>by
   have z:wc.cell? ⟨w.heap.size,1,none⟩=some (.int .i64 0):=(HR1.out.keep hbc).cell 1
   rw[← e,y1] at z
   injection z with z
   injection z with _ z
   exact absurd z (by decide)
  have HG:=Lib.hid (show (wc.drew.setRow w.heap.size (stA nd)).cell? ⟨g1,1,none⟩=some (.int .i64 2) from((Upd.setRow (S:=fun j=>j=w.heap.size) wc.drew (stA nd) rfl).cell (World.block_lt_of_cell? wc _ y1) hne).trans y1)
  clear hbl hbc hr9 y1 hr0 hne HZ2 HZ3 HZ4 HZ5 HBO HS1
  generalize hZ:stA nd=Z at l9 st9 lv9 HG ⊢
  have HZ:=Lib.hid hZ
  clear hZ
  go_upto_region 6 with fail
  go_region
  all_goals
   go_wp2_with fail
   exact bodyPost_ret (v:=.tuple #[.slice (some ⟨g1,0,none⟩) 2 c1,.agg Z,.int .i64 0]) (by rw[results_tct rfl];simp[asAddr,Result.andThen,lv9]) rfl ⟨g1,c1,by rw[HZ.out],HG.out,HQ.out.1,HQ.out.2,HBC.out.trans ((Upd.setRow (S:=fun j=>j=w.heap.size) wc.drew Z rfl).toBelow HBC.out.size (fun k hk e=>by have e:k=w.heap.size:=e;omega))⟩
end
structure FileX (x:FM) (q:Nat):Prop where
 nz:∀i,2≤i→i<32→x.nd i=nd0
 G:∀k,k<16→37≤x.G k∧x.G k<256∧hasB (hasT x.G) (x.G k)=true
 free:Free x.G (q+1) 7
 na:x.na≤8
 l0:(x.nd 0).l=1∧(x.nd 0).up=1
 Gq:∀k,k<16→x.G k≠q
structure FileF (x:FM) (q:Nat) (m:Int):Prop where
 k:(x.nd 0).k=2
 m0:(x.nd 0).m=493
 u:(x.nd 0).u=0
 g:(x.nd 0).g=0
 ps:(x.nd 0).ps=[(q:Int)]
 sz:(x.nd 0).sz=16
 q0:q≠0
 q1:q<256
 sec:(fsec x q).take 16=entL
 n1:∃pv,x.nd 1=⟨1,m,0,0,0,1,0,pv,[]⟩
 dk:DOk x
 q53:q=53
 tl:Told x
 x:FileX x q
theorem MadeF.file {w w':World} {c:FC} {x x':FM} {q:Nat} {m:Int}(h:MadeF w w' c x q m 0 0 x')(hr:Root0 x q)(hna:x.na≤2):FileF x' q m:=by
 obtain⟨pv,e⟩:=h.r0
 refine⟨?_,?_,?_,?_,?_,?_,?_,hr.fst.hi,?_,h.r1,h.dk,hr.q53,⟨h.t37,h.sd.sq.trans hr.sq0⟩,?_⟩
 ·rw[e];exact hr.k
 ·rw[e];exact hr.m
 ·rw[e];exact hr.u
 ·rw[e];exact hr.g
 ·rw[e]
 ·rw[e]
 ·have:=hr.fst.lo;omega
 ·rw[h.sec];rfl
 ·refine⟨fun i h1 h2=>(h.rz i h1).trans (hr.z i (by omega) h2),fun k hk=>?_,by rw[h.G];exact hr.free.on,by have:=h.na;omega,by rw[e];exact⟨hr.l,hr.up⟩,fun k hk e1=>?_⟩
  ·obtain⟨h1,h2,h3⟩:=hr.G k hk
   have hk0:x'.G k=x.G k:=by rw[h.G];exact gOn_off q (by omega)
   rw[hk0,h.G,hasB_gOn _ _ h2,h3]
   exact⟨h1,h2,rfl⟩
  ·obtain⟨h1,h2,h3⟩:=hr.G k hk
   have hk0:x'.G k=x.G k:=by rw[h.G];exact gOn_off q (by omega)
   rw[hk0] at e1
   rw[e1,hr.fst.no] at h3
   cases h3
section
variable {w:World} {k:KC} {s:KSt} {fc:FC} {x:FM} {p:Nat} {U K:Int} {a:Option Addr} {cap gc cc:Nat}
attribute [local go_sem ↓] ld_sta st_sta
attribute [local go_sem] stS_new
theorem openedN_is (h:KF w k s fc x) (q:Who w s p 0 127 a cap gc cc) {q0:Nat}(hr:Root0 x q0)(hna:x.na≤2) {m:Int}(hm:0≤m∧m≤511) {A:Array Value}(hA2:A[2]?=some (.int .i64 1))(hA3:A[3]?=some (.int .i64 m))(hA4:A[4]?=some (.string ⟨#[102]⟩))
  (hM:∀w,Calls Tryz.prog 167 #[.agg (stA (x.nd 0)),.agg (crA 0 127 a cap),.int .i64 4] w fun e w'=>e=.returned (.tuple #[.bool true,.int .i64 0])∧Below w.heap.size w w')
  (hM2:∀w,Calls Tryz.prog 167 #[.agg (stA (x.nd 0)),.agg (crA 0 127 a cap),.int .i64 2] w fun e w'=>e=.returned (.tuple #[.bool true,.int .i64 0])∧Below w.heap.size w w') :
  Calls Tryz.prog 150 #[.pointer (some ⟨k.K,0,none⟩),.int .i64 p,.agg A] w fun e w'=>e=.returned (.tuple #[.int .i64 2,.int .i64 0])∧∃x',KF w' k s fc x'∧FileF x' q0 m∧x'.held=x.held∧x'.nh=x.nh∧Upd x.bs w w'∧∀j,x'.bs j→x.bs j∨w.heap.size≤j:=by
 have hb1:=Go.Joins.below_alloc1 w (.cells A 38)
 have hr1:=row_new w 38 A
 have d4:(w.alloc (.cells A 38)).cell? ⟨w.heap.size,4,none⟩=some (.string ⟨#[102]⟩):=(hr1.cell 4).trans hA4
 have hz:∀j,x.bs j→j<w.heap.size:=h.fs.lt
 have hF:x.bs fc.F:=h.fs.bm _ (.inl rfl)
 have ha:x.bs x.a:=h.fs.bm _ (.inr (.inl rfl))
 have hK0:s.tag k.K≠0:=by rw[h.kt.tK];decide
 have HW:=Lib.hid (kwalkN_is (h.keep hb1) (q.keep hb1) hr.k hr.ps hr.sz hM)
 have HLS:=Lib.hid (fun wx (hb:Below w.heap.size w wx)=>klast_is (h.keep hb) (q.keep hb) hr.k hM hM2)
 have HMK:=Lib.hid (fun wx (hb:Below w.heap.size w wx)=>make0_is (h.keep hb).fs hr (by omega) hm (u:=0) (g:=0) (by decide) (by decide))
 have hc11:∀wx,Below w.heap.size w wx→wx.cell? ⟨k.K,8+p*38+11,none⟩=some (.int .i64 0)∧wx.cell? ⟨k.K,8+p*38+12,none⟩=some (.int .i64 0):=fun wx hb=>by
  have:=q.p16
  refine⟨?_,?_⟩
  ·rw[(h.keep hb).kt.kr.cell (by omega)];exact(q.cr 0 (by decide)).symm
  ·rw[(h.keep hb).kt.kr.cell (by omega)];exact(q.cr 1 (by decide)).symm
 have HS:Hid (∀wx,Below (w.alloc (.cells A 38)).heap.size (w.alloc (.cells A 38)) wx→(wx.cell? ⟨k.K,2,none⟩=some (.pointer (some ⟨fc.F,0,none⟩))∧wx.cell? ⟨w.heap.size,3,none⟩=some (.int .i64 m)∧wx.cell? ⟨k.K,8+p*38+11,none⟩=some (.int .i64 0)∧wx.cell? ⟨k.K,8+p*38+12,none⟩=some (.int .i64 0)∧wx.cell? ⟨k.K,8+p*38+11+1,none⟩=some (.int .i64 0)∧wx.cell? ⟨w.heap.size,4,none⟩=some (.string ⟨#[102]⟩)∧wx.cell? ⟨w.heap.size,2,none⟩=some (.int .i64 1))):=Lib.hid (fun wx hb=>by
    have hbw:=hb1.trans (hb.mono hb1.size)
    exact⟨(h.keep hbw).fsp,((hr1.keep hb).cell 3).trans hA3,(hc11 wx hbw).1,(hc11 wx hbw).2,(hc11 wx hbw).2,((hr1.keep hb).cell 4).trans hA4,((hr1.keep hb).cell 2).trans hA2⟩)
 have HS2:Hid (∀wx w',Below (w.alloc (.cells A 38)).heap.size (w.alloc (.cells A 38)) wx→Upd (fun j=>j=fc.F∨j=x.a) wx w'→(w'.cell? ⟨k.K,2,none⟩=some (.pointer (some ⟨fc.F,0,none⟩))∧w'.cell? ⟨w.heap.size,3,none⟩=some (.int .i64 m)∧w'.cell? ⟨k.K,8+p*38+11,none⟩=some (.int .i64 0)∧w'.cell? ⟨k.K,8+p*38+12,none⟩=some (.int .i64 0)∧w'.cell? ⟨k.K,8+p*38+11+1,none⟩=some (.int .i64 0)∧w'.cell? ⟨w.heap.size,4,none⟩=some (.string ⟨#[102]⟩)∧w'.cell? ⟨w.heap.size,2,none⟩=some (.int .i64 1))):=Lib.hid (fun wx w' hb hu=>by
    have hK:¬(k.K=fc.F∨k.K=x.a):=by
      rintro (e|e)
      · exact hK0 (h.sep _ (e ▸ hF))
      · exact hK0 (h.sep _ (e ▸ ha))
    have hC:¬(w.heap.size=fc.F∨w.heap.size=x.a):=by
      rintro (e|e)
      · have:=hz _ hF;omega
      · have:=hz _ ha;omega
    obtain⟨t1,t2,t3,t4,t5,t6,t7⟩:=HS.out wx hb
    have lt:∀ {b o v},wx.cell? ⟨b,o,none⟩=some v→b<wx.heap.size:=fun e=>World.block_lt_of_cell? wx _ e
    exact⟨(hu.cell (lt t1) hK).trans t1,(hu.cell (lt t2) hC).trans t2,(hu.cell (lt t3) hK).trans t3,(hu.cell (lt t4) hK).trans t4,(hu.cell (lt t5) hK).trans t5,(hu.cell (lt t6) hC).trans t6,(hu.cell (lt t7) hC).trans t7⟩)
 have i17:(p:Int)<17:=by have:=q.p16;omega
 have HH:=Lib.hid h
 have HRT:=Lib.hid hr
 have HB1:=Lib.hid hb1
 have HMF:Hid (∀wx w' x',Below w.heap.size w wx→MadeF wx w' fc x q0 m 0 0 x'→(KF w' k s fc x'∧FileF x' q0 m∧x'.held=x.held∧x'.nh=x.nh∧Upd x.bs w w'∧∀j,x'.bs j→x.bs j∨w.heap.size≤j)):=Lib.hid (fun wx w' x' hb hx=>by
    have hu:Upd x.bs wx w':=hx.up.mono fun j _ e=>by rcases e with rfl|rfl;exact hF;exact ha
    have hs:∀j,x'.bs j→x.bs j∨w.heap.size≤j:=fun j e=>(hx.bs j e).imp_right fun q=>Nat.le_trans hb.size q
    exact⟨⟨(h.keep hb).kt.upd hu (fun j e q=>e (h.sep j q)),h.c2,hx.st,fun j e=>(hs j e).elim (h.sep j) (h.kt.tz j)⟩,hx.file hr hna,hx.held.1,hx.held.2,(Upd.below hb).trans hu,hs⟩)
 clear h q hr hna hm hM hM2 hb1 hr1 hc11 hz hF ha hK0
 go_enter Tryz.func150,Tryz.ntmps150
 go_upto_region 1 with fail
 generalize w.alloc (.cells A 38)=w1 at *
 go_upto_region 2 with (go_at_call 85;(with_reducible refine HW.out.mono ?_);rintro e2 w2 ⟨rfl,hb2⟩)
 have HB3:=Lib.hid (hb2.alloc hb2.size (.cells (stA nd0) 33))
 clear hb2 d4 HW
 generalize w2.alloc (.cells (stA nd0) 33)=w3 at *
 obtain⟨t1,t2,t3,t4,t5,t6,t7⟩:=HS.out _ HB3.out
 have HL3:=Lib.hid (HLS.out _ (HB1.out.trans (HB3.out.mono HB1.out.size)))
 clear HLS
 go_upto_region 4 with (go_at_call 160;(with_reducible refine HL3.out.mono ?_);rintro e4 w4 ⟨rfl,hb4⟩)
 have HB4:=Lib.hid (HB3.out.trans (hb4.mono HB3.out.size))
 have HB14:=Lib.hid (HB1.out.trans (HB4.out.mono HB1.out.size))
 clear hb4 HL3 t1 t2 t3 t4 t5 t6 t7
 go_upto_region 7 with fail
 go_region_held3 (fun wx=>wx.cell? ⟨k.K,2,none⟩=some (.pointer (some ⟨fc.F,0,none⟩))∧wx.cell? ⟨w.heap.size,3,none⟩=some (.int .i64 m)∧wx.cell? ⟨k.K,8+p*38+11,none⟩=some (.int .i64 0)∧wx.cell? ⟨k.K,8+p*38+12,none⟩=some (.int .i64 0)∧wx.cell? ⟨k.K,8+p*38+11+1,none⟩=some (.int .i64 0)∧wx.cell? ⟨w.heap.size,4,none⟩=some (.string ⟨#[102]⟩)∧wx.cell? ⟨w.heap.size,2,none⟩=some (.int .i64 1)) (first|(with_reducible exact HS.out _ HB4.out)|(with_reducible exact HS.out _ HB4.out.drew)|(with_reducible exact HS2.out _ _ HB4.out.drew HX9.out.up)|fail) (first|(go_at_call 59;(with_reducible refine(HMK.out _ HB14.out.drew).mono ?_);rintro e9 w9 ⟨rfl,x9,hx9⟩;have HX9:=Lib.hid hx9;clear hx9)|fail)
 all_goals
  go_wp2_with fail
  go_ret2
  exact⟨rfl,x9,HMF.out _ _ _ HB14.out.drew HX9.out⟩
end
def blkz (z:List Int):Nat:=(z.length+63) / 64
structure FileZ (x:FM) (q:Nat) (m:Int) (z:List Int):Prop where
 k:(x.nd 0).k=2
 m0:(x.nd 0).m=493
 u:(x.nd 0).u=0
 g:(x.nd 0).g=0
 ps:(x.nd 0).ps=[(q:Int)]
 sz:(x.nd 0).sz=16
 q0:q≠0
 q1:q+8≤256
 sec:(fsec x q).take 16=entL
 n1:∃pv,x.nd 1=⟨1,m,0,0,z.length,1,0,pv,pts (q+1) (blkz z) (blkz z)⟩
 dat:∀j,j<blkz z→fsec x (q+1+j)=secW z j
 nz:∀i,2≤i→i<32→x.nd i=nd0
 G:∀k,k<16→37≤x.G k∧x.G k<256
 na:x.na≤20
 l0:(x.nd 0).l=1∧(x.nd 0).up=1
 gd:37≤q+1∧∀j,j<blkz z→∀k,k<16→x.G k≠q+1+j
 dk:DOk x
 q53:q=53
structure FileR (x:FM) (q:Nat) (z:List Int):Prop where
 q1:q+8≤256
 n1:∃m l pv,x.nd 1=⟨1,m,0,0,z.length,l,0,pv,pts (q+1) (blkz z) (blkz z)⟩
 dat:∀j,j<blkz z→fsec x (q+1+j)=secW z j
theorem FileZ.r {x:FM} {q:Nat} {m:Int} {z:List Int}(h:FileZ x q m z):FileR x q z:=by
 obtain⟨pv,e⟩:=h.n1
 exact⟨h.q1,⟨m,1,pv,e⟩,h.dat⟩
structure FileW (x:FM) (q:Nat) (m:Int) (z:List Int):Prop where
 fz:FileZ x q m z
 tl:Told x
 fre:Free x.G (q+1+blkz z) (7-blkz z)
 gh:∀k,k<16→hasB (hasT x.G) (x.G k)=true
 Gq:∀k,k<16→x.G k≠q
theorem hasB_gN {G:Nat→Nat} {q n:Nat}(hn:n<256)(h:hasB (hasT G) n=true):∀j,hasB (hasT (gN G q j)) n=true
 | 0=>h
 | j+1=>by
  show hasB (hasT (gOn (gN G q j) (q+j))) n=true
  rw[hasB_gOn _ _ hn,hasB_gN hn h j]
  rfl
theorem Free.le {G:Nat→Nat} {q K K':Nat}(h:Free G q K)(hk:K'≤K):Free G q K':=⟨h.lo,by have:=h.hi;omega,fun j hj=>h.no j (by omega),h.al⟩
theorem FileF.z {x:FM} {q:Nat} {m:Int}(h:FileF x q m):FileZ x q m []:=by
 have:=h.x.free.hi
 refine⟨h.k,h.m0,h.u,h.g,h.ps,h.sz,h.q0,by omega,h.sec,h.n1,fun j hj=>by simp[blkz] at hj,h.x.nz,fun k hk=>⟨(h.x.G k hk).1,(h.x.G k hk).2.1⟩,by have:=h.x.na;omega,h.x.l0,⟨h.x.free.lo,fun j hj=>by simp[blkz] at hj⟩,h.dk,h.q53⟩
theorem FileF.y {x:FM} {q:Nat} {m:Int}(h:FileF x q m) {K:Nat}(hK:K≤4):FileY x (q+1) K:=by
 have hq:=h.x.free.lo
 have hq2:=h.x.free.hi
 refine⟨⟨by have:=h.k;omega,by have:=h.m0;omega,by have:=h.u;omega,by have:=h.g;omega,by have:=h.x.l0;omega,.inl ⟨h.k,by have:=h.x.l0;omega,by have:=h.x.l0;omega⟩,⟨by rw[h.ps];simp,fun p hp=>?_⟩,16,h.sz,by decide,by rw[h.ps];rfl⟩,h.x.nz,h.x.G,h.x.free.le (by omega),by have:=h.x.na;omega,h.dk,by have:=h.q53;omega⟩
 rw[h.ps] at hp
 simp at hp
 have:=h.q1
 omega
theorem FileF.w {x:FM} {q:Nat} {m:Int}(h:FileF x q m):FileW x q m []:=⟨h.z,h.tl,h.x.free,fun k hk=>(h.x.G k hk).2.2,h.x.Gq⟩
section
variable {w:World} {c:FC} {x:FM}
theorem FileF.wrote {w':World} {x':FM} {q:Nat} {m:Int} {z:List Int}(h:FileF x q m)(hz:z.length≤256)(hw:WroteF w w' c x (q+1) (blkz z) z x'):FileZ x' q m z:=by
 have hb:blkz z≤4:=by unfold blkz;omega
 have hq:=h.x.free.lo
 have hq2:=h.x.free.hi
 refine⟨by rw[hw.n0];exact h.k,by rw[hw.n0];exact h.m0,by rw[hw.n0];exact h.u,by rw[hw.n0];exact h.g,by rw[hw.n0];exact h.ps,by rw[hw.n0];exact h.sz,h.q0,by omega,?_,?_,hw.sec,fun i h1 h2=>(hw.nz i h1).trans (h.x.nz i h1 h2),fun k hk=>?_,by have:=hw.na;have:=h.x.na;omega,by rw[hw.n0];exact h.x.l0,⟨hq,fun j hj k hk=>by rw[hw.G,gN_off _ hk];exact(h.x.free.le (by omega:blkz z≤7)).ne (h.x.G k hk).2.2 j hj⟩,hw.dk,h.q53⟩
 ·rw[hw.old q (by omega) (fun j hj=>by omega) (fun i hi e=>h.x.Gq i hi e.symm)]
  exact h.sec
 ·obtain⟨pv,e⟩:=hw.n1
  obtain⟨pv0,e0⟩:=h.n1
  exact⟨pv,by rw[e,e0]⟩
 ·rw[hw.G,gN_off _ hk]
  exact⟨(h.x.G k hk).1,(h.x.G k hk).2.1⟩
theorem FileF.wroteW {w':World} {x':FM} {q:Nat} {m:Int} {z:List Int}(h:FileF x q m)(hz:z.length≤256)(hw:WroteF w w' c x (q+1) (blkz z) z x'):FileW x' q m z:=by
 have hb:blkz z≤4:=by unfold blkz;omega
 refine⟨h.wrote hz hw,⟨hw.t37,hw.sd.sq.trans h.tl.2⟩,?_,fun k hk=>?_,fun k hk=>by rw[hw.G,gN_off _ hk];exact h.x.Gq k hk⟩
 ·rw[hw.G]
  exact h.x.free.gN (blkz z) (by omega)
 ·rw[hw.G,gN_off _ hk]
  exact hasB_gN (h.x.G k hk).2.1 (h.x.G k hk).2.2 _
theorem write0_is (h:FSt w c x)(hk:(x.nd 1).k=1) (a:Option Addr) (cp:Nat)(hc:cp≤maxLen) :
  Calls Tryz.prog 60 #[.pointer (some ⟨c.F,0,none⟩),.int .i64 2,.int .i64 0,.slice a 0 cp] w fun e w'=>e=.returned (.tuple #[.int .i64 0,.int .i64 0])∧w=w':=by
 have HFI:=Lib.hid (fileF_is h (i:=1) (by decide) (n:=2) rfl hk)
 clear h hk
 go_enter Tryz.func60,Tryz.ntmps60
 go_wp2_with (go_at_call 126;(with_reducible refine HFI.out.mono ?_);rintro e0 w0 ⟨rfl,rfl⟩)
 go_ret2
 exact⟨rfl,rfl⟩
theorem writeZ_is (h:FSt w c x) {q:Nat} {m:Int}(hf:FileF x q m)(hm:0≤m∧m≤511) {v:Value} {z:List Int}(hz:At (Value.int .u8) 0 w v z)(hz2:z.length≤256) :
  Calls Tryz.prog 60 #[.pointer (some ⟨c.F,0,none⟩),.int .i64 2,.int .i64 0,v] w fun e w'=>e=.returned (.tuple #[.int .i64 z.length,.int .i64 0])∧∃x',FSt w' c x'∧FileW x' q m z∧x'.held=x.held∧x'.nh=x.nh∧(∀j,x'.bs j→x.bs j∨w.heap.size≤j)∧Upd x.bs w w':=by
 obtain⟨pv,e1⟩:=hf.n1
 have hk:(x.nd 1).k=1:=by rw[e1]
 by_cases h0:z.length=0
 ·obtain⟨a,cp,rfl,lz,mz,-⟩:=hz
  rw[h0]
  refine(write0_is h hk a cp mz).mono ?_
  rintro e w' ⟨rfl,rfl⟩
  have hz:z=[]:=List.length_eq_zero_iff.1 h0
  subst hz
  exact⟨rfl,x,h,hf.w,rfl,rfl,fun j e=>.inl e,Upd.refl _ _⟩
 ·have hb:blkz z=(z.length-1) / 64+1:=by unfold blkz;omega
  have hb4:blkz z≤4:=by unfold blkz;omega
  refine(writeF_is h hk (by rw[e1]) (by rw[e1]) (hf.y hb4) hz (by omega) hz2 hb (fun v8=>?_)).mono ?_
  ·rw[e1]
   refine⟨by simp,hm,by simp,by simp,by simp,.inr ⟨by simp,rfl⟩,⟨by rw[pts_len];omega,pts_in (by have:=hf.x.free.hi;omega)⟩,z.length,rfl,by omega,by rw[pts_len];rfl⟩
  ·rintro e w' ⟨rfl,x',hw⟩
   exact⟨rfl,x',hw.st,hf.wroteW hz2 hw,hw.held.1,hw.held.2,hw.bs,hw.up.mono fun i _ e=>by
        rcases e with rfl|rfl
        · exact h.bm _ (.inl rfl)
        · exact h.bm _ (.inr (.inl rfl))⟩
theorem catW_len (z:List Int):∀K,((List.range K).flatMap (secW z)).length=64*K
 | 0=>rfl
 | K+1=>by
  rw[List.range_succ,List.flatMap_append,List.length_append,catW_len z K]
  simp[secW_len]
  omega
theorem catW_get (z:List Int):∀K i,i<64*K→((List.range K).flatMap (secW z))[i]?=some (z.getD i 0)
 | 0,i,h=>by omega
 | K+1,i,h=>by
  rw[List.range_succ,List.flatMap_append]
  by_cases hi:i<64*K
  ·rw[List.getElem?_append_left (by rw[catW_len];exact hi)]
   exact catW_get z K i hi
  ·rw[List.getElem?_append_right (by rw[catW_len];omega),catW_len]
   have hj:i-64*K<64:=by omega
   have e:64*K+(i-64*K)=i:=by omega
   simp[secW,hj,e]
theorem flatMap_same {f g:Nat→List Int}:∀l:List Nat,(∀j,j∈l→f j=g j)→l.flatMap f=l.flatMap g
 | [],_=>rfl
 | a::l,h=>by
  rw[List.flatMap_cons,List.flatMap_cons,h a (List.mem_cons_self ..),flatMap_same l (fun j hj=>h j (List.mem_cons_of_mem _ hj))]
theorem catW_take {z:List Int} {x:FM} {q:Nat}(hd:∀j,j<blkz z→fsec x (q+j)=secW z j):(catP x (pts q (blkz z) (blkz z))).take z.length=z:=by
 have e:catP x (pts q (blkz z) (blkz z))=(List.range (blkz z)).flatMap (secW z):=by
  unfold catP pts
  rw[List.flatMap_map]
  refine flatMap_same _ (fun j hj=>?_)
  have hj:j<blkz z:=List.mem_range.1 hj
  show fsec x (Int.toNat (if j<blkz z then ((q+j:Nat):Int) else 0))=_
  rw[if_pos hj,Int.toNat_natCast]
  exact hd j hj
 rw[e]
 apply List.ext_getElem?
 intro i
 rw[List.getElem?_take]
 by_cases hi:i<z.length
 ·rw[if_pos hi,catW_get z _ i (by unfold blkz;omega)]
  simp[hi]
 ·rw[if_neg hi,List.getElem?_eq_none (by omega)]
end
end Go.Proofs.YtfkepfncgdlgoaaGreatDoor
