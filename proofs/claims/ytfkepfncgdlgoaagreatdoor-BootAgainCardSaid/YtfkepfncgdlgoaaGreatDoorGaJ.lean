/- The kernel's walk, last, opened and open at "g". Printed by gen_gai.py. -/
import Derived.Test.YtfkepfncgdlgoaaGreatDoorGaI
import Derived.Test.YtfkepfncgdlgoaaGreatDoorRwA
namespace Go.Proofs.YtfkepfncgdlgoaaGreatDoor
open Go.RowKit Go.Maps
set_option linter.unusedVariables false
set_option linter.unusedSimpArgs false
set_option maxRecDepth 100000
set_option maxHeartbeats 1000000
def OpenToG (s:KSt) (p:Nat) (W:Int) (j k0:Nat):KSt:={ s with fs:=OpenLaw.updF s.fs k0 ⟨1,3,W,false,0,1⟩,fd:=OpenLaw.updN s.fd (p*8+j) (k0+1) }
def heldToG (x:FM):FM:={ x with held:=fun j=>if j=3 then some (hcn (x.held 3)) else x.held j,nh:=x.nh+1 }
section
variable {w0 w:World} {k:KC} {s:KSt} {fc:FC} {x:FM} {p:Nat} {U K:Int} {a:Option Addr} {cap gc cc:Nat} {A:Array Value}
theorem KF.holdG {w':World}(h:KF w k s fc x)(hf:FSt w' fc (heldToG x))(hu:Upd (fun j=>j=fc.hb) w w'):KF w' k s fc (heldToG x):=
 ⟨h.kt.upd hu (fun j hj e=>hj (h.sep _ (h.fs.bm _ (.inr (.inr (.inl e)))))),h.c2,hf,h.sep⟩
attribute [local go_sem ↓] ld_sta st_sta ld_crd
attribute [local go_sem] stS_new
theorem klastG_is (h:KF w k s fc x) (q:Who w s p U K a cap gc cc)(hk:(x.nd 0).k=2)
  (hM:∀w,Calls Tryz.prog 167 #[.agg (stA (x.nd 0)),.agg (crA U K a cap),.int .i64 4] w fun e w'=>e=.returned (.tuple #[.bool true,.int .i64 0])∧Below w.heap.size w w')
  (hM2:∀w,Calls Tryz.prog 167 #[.agg (stA (x.nd 0)),.agg (crA U K a cap),.int .i64 2] w fun e w'=>e=.returned (.tuple #[.bool true,.int .i64 0])∧Below w.heap.size w w') :
  Calls Tryz.prog 160 #[.pointer (some ⟨k.K,0,none⟩),.int .i64 p,.string ⟨#[103]⟩] w fun e w'=>e=.returned (.tuple #[.int .i64 1,.string ⟨#[103]⟩,.int .i64 0])∧Below w.heap.size w w':=by
 have HPL:=Lib.hid (fun wx (hb:Below w.heap.size w wx)=>pLastG_is (h.keep hb).fs hk q.hU q.hK q.hc (q.keep hb).g q.c1 q.c2 hM)
 have HMY:=Lib.hid (fun wx (hb:Below w.heap.size w wx)=>kmay_is (h.keep hb) (q.keep hb) (i:=0) (by decide) (n:=1) rfl (by rw[hk];decide) hM2)
 have HL:Hid (∀wx,Below w.heap.size w wx→(wx.cell? ⟨k.K,2,none⟩=some (.pointer (some ⟨fc.F,0,none⟩))∧wx.cell? ⟨k.K,8+p*38+18,none⟩=some (.slice none 0 0)∧(ldR 56 (.pointer (some ⟨k.K,8+p*38+11,none⟩))).run Tryz.prog wx=.ok (.agg (crA U K a cap)) wx∧wx.cell? ⟨k.K,8+p*38+17,none⟩=some (.slice (some ⟨gc,0,none⟩) 1 cc))):=Lib.hid (fun wx hb=>⟨(h.keep hb).fsp,by rw[(h.keep hb).kt.kr.cell (by have:=q.p16;omega),q.mt],(h.keep hb).ldcr (q.keep hb),by rw[(h.keep hb).kt.kr.cell (by have:=q.p16;omega),q.wd]⟩)
 have i17:(p:Int)<17:=by have:=q.p16;omega
 clear h q hM hM2 hk
 go_enter Tryz.func160,Tryz.ntmps160
 go_upto_region 2 with fail
 go_region_held3 (fun wx=>wx.cell? ⟨k.K,2,none⟩=some (.pointer (some ⟨fc.F,0,none⟩))∧wx.cell? ⟨k.K,8+p*38+18,none⟩=some (.slice none 0 0)∧(ldR 56 (.pointer (some ⟨k.K,8+p*38+11,none⟩))).run Tryz.prog wx=.ok (.agg (crA U K a cap)) wx∧wx.cell? ⟨k.K,8+p*38+17,none⟩=some (.slice (some ⟨gc,0,none⟩) 1 cc)) (first|(with_reducible exact HL.out _ (Below.refl _ _))|(with_reducible exact HL.out _ (Below.refl _ _).drew)|(with_reducible exact HL.out _ HB1.out)|fail)
     (first|(go_at_call 230;(with_reducible refine(HPL.out _ (Below.refl _ _).drew).mono ?_);rintro e1 w1 ⟨g1,c1,rfl,y1,q1,q2,hb1⟩;have HB1:=Lib.hid ((Below.refl w.heap.size w).drew.trans hb1);clear hb1)|fail)
 have HM1:=Lib.hid (HMY.out _ HB1.out)
 have hmx:(c1:Int)≤9223372036854775807:=by unfold maxLen at q2;omega
 clear HMY HPL HL q2
 go_wp2_with (go_at_call 91;(with_reducible refine HM1.out.mono ?_);rintro e2 w2 ⟨rfl,hb2⟩)
 go_ret3
 exact⟨rfl,HB1.out.trans (hb2.mono HB1.out.size)⟩
end
section
variable {w0 w:World} {k:KC} {s:KSt} {fc:FC} {x:FM} {p:Nat} {U K:Int} {a:Option Addr} {cap gc cc:Nat} {A:Array Value}
attribute [local go_sem ↓] ld_sta st_sta ld_crd bd_sta
attribute [local go_sem] stS_new
theorem kwalkGN_is (h:KF w k s fc x) (q:Who w s p U K a cap gc cc)(hk:(x.nd 0).k=2) {q0:Nat}(hp:(x.nd 0).ps=[(q0:Int)])(hp0:q0≠0)(hp1:q0<256)(hs:(x.nd 0).sz=16)(hf:(fsec x q0).take 16=entL)
  (hM:∀w,Calls Tryz.prog 167 #[.agg (stA (x.nd 0)),.agg (crA U K a cap),.int .i64 4] w fun e w'=>e=.returned (.tuple #[.bool true,.int .i64 0])∧Below w.heap.size w w') :
  Calls Tryz.prog 85 #[.pointer (some ⟨k.K,0,none⟩),.int .i64 p,.string ⟨#[103]⟩] w fun e w'=>e=.returned (.tuple #[.slice none 0 0,.agg (stA nd0),.int .i64 4])∧Below w.heap.size w w':=by
 have HB0:=Lib.hid (Go.Joins.below_alloc1 w (.cells #[.int .i64 0,.int .i64 0,.int .i64 0,.int .i64 0,.int .i64 0,.int .i64 0] 33))
 have HR0:Hid (Row (w.alloc (.cells #[.int .i64 0,.int .i64 0,.int .i64 0,.int .i64 0,.int .i64 0,.int .i64 0] 33)) w.heap.size 33 (stA nd0)):=Lib.hid (row_new w 33 (stA nd0))
 have HPW:=Lib.hid (fun wx (hb:Below w.heap.size w wx)=>pWalkGN_is (h.keep hb).fs hk hp hp0 hp1 hs hf q.hU q.hK q.hc (q.keep hb).g q.c1 q.c2 hM)
 have HL:Hid (∀wx,Below w.heap.size w wx→(wx.cell? ⟨k.K,2,none⟩=some (.pointer (some ⟨fc.F,0,none⟩))∧wx.cell? ⟨k.K,8+p*38+18,none⟩=some (.slice none 0 0)∧(ldR 56 (.pointer (some ⟨k.K,8+p*38+11,none⟩))).run Tryz.prog wx=.ok (.agg (crA U K a cap)) wx∧wx.cell? ⟨k.K,8+p*38+17,none⟩=some (.slice (some ⟨gc,0,none⟩) 1 cc))):=Lib.hid (fun wx hb=>⟨(h.keep hb).fsp,by rw[(h.keep hb).kt.kr.cell (by have:=q.p16;omega),q.mt],(h.keep hb).ldcr (q.keep hb),by rw[(h.keep hb).kt.kr.cell (by have:=q.p16;omega),q.wd]⟩)
 have i17:(p:Int)<17:=by have:=q.p16;omega
 clear h q hM hk hp hs hp0 hp1 hf
 go_enter Tryz.func85,Tryz.ntmps85
 go_upto_region 2 with fail
 generalize w.alloc (.cells #[.int .i64 0,.int .i64 0,.int .i64 0,.int .i64 0,.int .i64 0,.int .i64 0] 33)=w0 at *
 go_region_held3 (fun wx=>wx.cell? ⟨k.K,2,none⟩=some (.pointer (some ⟨fc.F,0,none⟩))∧wx.cell? ⟨k.K,8+p*38+18,none⟩=some (.slice none 0 0)∧(ldR 56 (.pointer (some ⟨k.K,8+p*38+11,none⟩))).run Tryz.prog wx=.ok (.agg (crA U K a cap)) wx∧wx.cell? ⟨k.K,8+p*38+17,none⟩=some (.slice (some ⟨gc,0,none⟩) 1 cc)) (first|(with_reducible exact HL.out _ HB0.out)|(with_reducible exact HL.out _ HB0.out.drew)|(with_reducible exact HL.out _ HB1.out)|fail)
     (first|(go_at_call 166;(with_reducible refine(HPW.out _ HB0.out.drew).mono ?_);rintro e1 w1 ⟨rfl,hb1⟩;have HB1:=Lib.hid (HB0.out.drew.trans (hb1.mono HB0.out.drew.size));have HR1:=Lib.hid (HR0.out.drew.keep hb1);clear hb1)|fail)
 have st1:=Row.stS' (n':=nd0) HR1.out
 have lv1:=(HR1.out.setRow (stA nd0)).ldVS
 have hbd:=bd_sta_run
 clear HPW HL
 generalize hZ:stA nd0=Z at hbd st1 lv1 ⊢
 have HZ:=Lib.hid hZ
 clear hZ
 go_wp2_with fail
 exact bodyPost_ret (v:=.tuple #[.slice none 0 0,.agg Z,.int .i64 4]) (by rw[results_tct rfl];simp[asAddr,Result.andThen,lv1]) rfl ⟨by rw[HZ.out],HB1.out.trans ((Upd.setRow (S:=fun j=>j=w.heap.size) w1 Z rfl).toBelow HB1.out.size (fun k hk e=>by have e:k=w.heap.size:=e;omega))⟩
end
section
variable {w0 w:World} {k:KC} {s:KSt} {fc:FC} {x:FM} {p:Nat} {U K:Int} {a:Option Addr} {cap gc cc:Nat}
attribute [local go_sem ↓] ld_sta st_sta
attribute [local go_sem] stS_new
theorem openedGN_is (h:KF w k s fc x) (q:Who w s p 0 127 a cap gc cc) {q0 f0:Nat}(hr:DirG x q0 f0) {m:Int}(hm:0≤m∧m≤511) {A:Array Value}(hA2:A[2]?=some (.int .i64 1))(hA3:A[3]?=some (.int .i64 m))(hA4:A[4]?=some (.string ⟨#[103]⟩))
  (hM:∀w,Calls Tryz.prog 167 #[.agg (stA (x.nd 0)),.agg (crA 0 127 a cap),.int .i64 4] w fun e w'=>e=.returned (.tuple #[.bool true,.int .i64 0])∧Below w.heap.size w w')
  (hM2:∀w,Calls Tryz.prog 167 #[.agg (stA (x.nd 0)),.agg (crA 0 127 a cap),.int .i64 2] w fun e w'=>e=.returned (.tuple #[.bool true,.int .i64 0])∧Below w.heap.size w w') :
  Calls Tryz.prog 150 #[.pointer (some ⟨k.K,0,none⟩),.int .i64 p,.agg A] w fun e w'=>e=.returned (.tuple #[.int .i64 3,.int .i64 0])∧∃x',KF w' k s fc x'∧(FileG x' f0 m∧SameD x x')∧x'.held=x.held∧x'.nh=x.nh∧Upd x.bs w w'∧∀j,x'.bs j→x.bs j∨w.heap.size≤j:=by
 have hb1:=Go.Joins.below_alloc1 w (.cells A 38)
 have hr1:=row_new w 38 A
 have d4:(w.alloc (.cells A 38)).cell? ⟨w.heap.size,4,none⟩=some (.string ⟨#[103]⟩):=(hr1.cell 4).trans hA4
 have hz:∀j,x.bs j→j<w.heap.size:=h.fs.lt
 have hF:x.bs fc.F:=h.fs.bm _ (.inl rfl)
 have ha:x.bs x.a:=h.fs.bm _ (.inr (.inl rfl))
 have hK0:s.tag k.K≠0:=by rw[h.kt.tK];decide
 have HW:=Lib.hid (kwalkGN_is (h.keep hb1) (q.keep hb1) hr.k hr.ps hr.q0 hr.q1 hr.sz hr.sec hM)
 have HLS:=Lib.hid (fun wx (hb:Below w.heap.size w wx)=>klastG_is (h.keep hb) (q.keep hb) hr.k hM hM2)
 have HMK:=Lib.hid (fun wx (hb:Below w.heap.size w wx)=>makeGg_is (h.keep hb).fs hr hm (u:=0) (g:=0) (by decide) (by decide))
 have hc11:∀wx,Below w.heap.size w wx→wx.cell? ⟨k.K,8+p*38+11,none⟩=some (.int .i64 0)∧wx.cell? ⟨k.K,8+p*38+12,none⟩=some (.int .i64 0):=fun wx hb=>by
  have:=q.p16
  refine⟨?_,?_⟩
  ·rw[(h.keep hb).kt.kr.cell (by omega)];exact(q.cr 0 (by decide)).symm
  ·rw[(h.keep hb).kt.kr.cell (by omega)];exact(q.cr 1 (by decide)).symm
 have HS:Hid (∀wx,Below (w.alloc (.cells A 38)).heap.size (w.alloc (.cells A 38)) wx→(wx.cell? ⟨k.K,2,none⟩=some (.pointer (some ⟨fc.F,0,none⟩))∧wx.cell? ⟨w.heap.size,3,none⟩=some (.int .i64 m)∧wx.cell? ⟨k.K,8+p*38+11,none⟩=some (.int .i64 0)∧wx.cell? ⟨k.K,8+p*38+12,none⟩=some (.int .i64 0)∧wx.cell? ⟨k.K,8+p*38+11+1,none⟩=some (.int .i64 0)∧wx.cell? ⟨w.heap.size,4,none⟩=some (.string ⟨#[103]⟩)∧wx.cell? ⟨w.heap.size,2,none⟩=some (.int .i64 1))):=Lib.hid (fun wx hb=>by
    have hbw:=hb1.trans (hb.mono hb1.size)
    exact⟨(h.keep hbw).fsp,((hr1.keep hb).cell 3).trans hA3,(hc11 wx hbw).1,(hc11 wx hbw).2,(hc11 wx hbw).2,((hr1.keep hb).cell 4).trans hA4,((hr1.keep hb).cell 2).trans hA2⟩)
 have HS2:Hid (∀wx w',Below (w.alloc (.cells A 38)).heap.size (w.alloc (.cells A 38)) wx→Upd (fun j=>j=fc.F∨j=x.a) wx w'→(w'.cell? ⟨k.K,2,none⟩=some (.pointer (some ⟨fc.F,0,none⟩))∧w'.cell? ⟨w.heap.size,3,none⟩=some (.int .i64 m)∧w'.cell? ⟨k.K,8+p*38+11,none⟩=some (.int .i64 0)∧w'.cell? ⟨k.K,8+p*38+12,none⟩=some (.int .i64 0)∧w'.cell? ⟨k.K,8+p*38+11+1,none⟩=some (.int .i64 0)∧w'.cell? ⟨w.heap.size,4,none⟩=some (.string ⟨#[103]⟩)∧w'.cell? ⟨w.heap.size,2,none⟩=some (.int .i64 1))):=Lib.hid (fun wx w' hb hu=>by
    have hK:¬(k.K=fc.F∨k.K=x.a):=by
      rintro (e|e)
      · exact hK0 (h.sep _ (e ▸ hF))
      · exact hK0 (h.sep _ (e ▸ ha))
    have hC:¬(w.heap.size=fc.F∨w.heap.size=x.a):=by
      rintro (e|e)
      · have:=hz _ hF;omega
      · have:=hz _ ha;omega
    obtain⟨t1,t2,t3,t4,t5,t6,t7⟩:=HS.out wx hb
    have lt:∀ {b o v},wx.cell? ⟨b,o,none⟩=some v→b<wx.heap.size:=fun e=>World.block_lt_of_cell? wx _ e
    exact⟨(hu.cell (lt t1) hK).trans t1,(hu.cell (lt t2) hC).trans t2,(hu.cell (lt t3) hK).trans t3,(hu.cell (lt t4) hK).trans t4,(hu.cell (lt t5) hK).trans t5,(hu.cell (lt t6) hC).trans t6,(hu.cell (lt t7) hC).trans t7⟩)
 have i17:(p:Int)<17:=by have:=q.p16;omega
 have HH:=Lib.hid h
 have HRT:=Lib.hid hr
 have HB1:=Lib.hid hb1
 have HMF:Hid (∀wx w' x',Below w.heap.size w wx→MadeG wx w' fc x q0 m 0 0 x'→(KF w' k s fc x'∧(FileG x' f0 m∧SameD x x')∧x'.held=x.held∧x'.nh=x.nh∧Upd x.bs w w'∧∀j,x'.bs j→x.bs j∨w.heap.size≤j)):=Lib.hid (fun wx w' x' hb hx=>by
    have hu:Upd x.bs wx w':=hx.up.mono fun j _ e=>by rcases e with rfl|rfl;exact hF;exact ha
    have hs:∀j,x'.bs j→x.bs j∨w.heap.size≤j:=fun j e=>(hx.bs j e).imp_right fun q=>Nat.le_trans hb.size q
    exact⟨⟨(h.keep hb).kt.upd hu (fun j e q=>e (h.sep j q)),h.c2,hx.st,fun j e=>(hs j e).elim (h.sep j) (h.kt.tz j)⟩,⟨hx.file hr,hx.sd⟩,hx.held.1,hx.held.2,(Upd.below hb).trans hu,hs⟩)
 clear h q hr hm hM hM2 hb1 hr1 hc11 hz hF ha hK0
 go_enter Tryz.func150,Tryz.ntmps150
 go_upto_region 1 with fail
 generalize w.alloc (.cells A 38)=w1 at *
 go_upto_region 2 with (go_at_call 85;(with_reducible refine HW.out.mono ?_);rintro e2 w2 ⟨rfl,hb2⟩)
 have HB3:=Lib.hid (hb2.alloc hb2.size (.cells (stA nd0) 33))
 clear hb2 d4 HW
 generalize w2.alloc (.cells (stA nd0) 33)=w3 at *
 obtain⟨t1,t2,t3,t4,t5,t6,t7⟩:=HS.out _ HB3.out
 have HL3:=Lib.hid (HLS.out _ (HB1.out.trans (HB3.out.mono HB1.out.size)))
 clear HLS
 go_upto_region 4 with (go_at_call 160;(with_reducible refine HL3.out.mono ?_);rintro e4 w4 ⟨rfl,hb4⟩)
 have HB4:=Lib.hid (HB3.out.trans (hb4.mono HB3.out.size))
 have HB14:=Lib.hid (HB1.out.trans (HB4.out.mono HB1.out.size))
 clear hb4 HL3 t1 t2 t3 t4 t5 t6 t7
 go_upto_region 7 with fail
 go_region_held3 (fun wx=>wx.cell? ⟨k.K,2,none⟩=some (.pointer (some ⟨fc.F,0,none⟩))∧wx.cell? ⟨w.heap.size,3,none⟩=some (.int .i64 m)∧wx.cell? ⟨k.K,8+p*38+11,none⟩=some (.int .i64 0)∧wx.cell? ⟨k.K,8+p*38+12,none⟩=some (.int .i64 0)∧wx.cell? ⟨k.K,8+p*38+11+1,none⟩=some (.int .i64 0)∧wx.cell? ⟨w.heap.size,4,none⟩=some (.string ⟨#[103]⟩)∧wx.cell? ⟨w.heap.size,2,none⟩=some (.int .i64 1)) (first|(with_reducible exact HS.out _ HB4.out)|(with_reducible exact HS.out _ HB4.out.drew)|(with_reducible exact HS2.out _ _ HB4.out.drew HX9.out.up)|fail) (first|(go_at_call 59;(with_reducible refine(HMK.out _ HB14.out.drew).mono ?_);rintro e9 w9 ⟨rfl,x9,hx9⟩;have HX9:=Lib.hid hx9;clear hx9)|fail)
 all_goals
  go_wp2_with fail
  go_ret2
  exact⟨rfl,x9,HMF.out _ _ _ HB14.out.drew HX9.out⟩
end
section
variable {w0 w:World} {k:KC} {s:KSt} {fc:FC} {x:FM} {p:Nat} {U K:Int} {a:Option Addr} {cap gc cc:Nat}
attribute [local go_sem ↓] ld_ans st_ans ld_call bd_ans
theorem kopenG_is (h:KF w k s fc x) (p1:1≤p) (p16:p≤16) {A:Array Value}(hA:A.size=7) {W B m:Int}(hA1:A[1]?=some (.int .i64 W))(hA2:A[2]?=some (.int .i64 B))(hA3:A[3]?=some (.int .i64 m))(hW:1≤W∧W≤3)(hBv:B=0∨B=1)(hm:0≤m∧m≤511) {P:FM→Prop}
  (hO:∀wx,Below w.heap.size w wx→Calls Tryz.prog 150 #[.pointer (some ⟨k.K,0,none⟩),.int .i64 p,.agg A] wx fun e w'=>e=.returned (.tuple #[.int .i64 3,.int .i64 0])∧∃x',KF w' k s fc x'∧P x'∧Upd x.bs wx w'∧∀j,x'.bs j→x.bs j∨wx.heap.size≤j)
  (hP:∀x',P x'→¬(x'.nd 2).k=0∧x'.nh<1000∧hcn (x'.held 3)<1000) (hf1:∃j,j<8∧s.fd (p*8+j)=0) (hf2:∃k0,k0<32∧(s.fs k0).n=0) :
  Calls Tryz.prog 75 #[.pointer (some ⟨k.K,0,none⟩),.int .i64 p,.agg A] w fun e w'=>∃j k0 x',j<8∧k0<32∧P x'∧KF w' k (OpenToG s p W j k0) fc (heldToG x')∧e=.returned (.agg (ansV 0 j 0 (.slice none 0 0)))∧Upd (fun i=>i=k.Fi∨x.bs i∨w.heap.size≤i) w w'∧∀i,x'.bs i→x.bs i∨w.heap.size≤i:=by
 have hb1:=Go.Joins.below_alloc1 w (.cells A 38)
 have hal:Below w.heap.size w ((w.alloc (.cells A 38)).alloc (.cells ansZ 35)):=hb1.trans ((Go.Joins.below_alloc1 _ _).mono hb1.size)
 have hr1:=(row_new w 38 A).alloc (.cells ansZ 35)
 have hr2:=row_new (w.alloc (.cells A 38)) 35 ansZ
 rw[size_alloc1] at hr2
 have d1:((w.alloc (.cells A 38)).alloc (.cells ansZ 35)).cell? ⟨w.heap.size,1,none⟩=some (.int .i64 W):=(hr1.cell 1).trans hA1
 have d2:((w.alloc (.cells A 38)).alloc (.cells ansZ 35)).cell? ⟨w.heap.size,2,none⟩=some (.int .i64 B):=(hr1.cell 2).trans hA2
 have d3:((w.alloc (.cells A 38)).alloc (.cells ansZ 35)).cell? ⟨w.heap.size,3,none⟩=some (.int .i64 m):=(hr1.cell 3).trans hA3
 have l2:=tld_callR hr1 hA
 have HO:=Lib.hid (hO _ hal)
 have HH:=Lib.hid h
 have HB:=Lib.hid hal
 have HP:=Lib.hid hP
 have HR:Hid (Row ((w.alloc (.cells A 38)).alloc (.cells #[.int .i64 0,.int .i64 0,.int .i64 0,.slice none 0 0,.slice none 0 0,.int .i64 0,.int .i64 0,.int .i64 0,.int .i64 0,.int .i64 0,.int .i64 0] 35)) (w.heap.size+1) 35 ansZ):=Lib.hid hr2
 have HC:=Lib.hid hr1
 have HAA:=Lib.hid (And.intro hA1 hA2)
 have HWW:=Lib.hid hW
 have HF1:=Lib.hid hf1
 have HF2:=Lib.hid hf2
 have HPP:=Lib.hid (And.intro p1 p16)
 have w1:¬W<1:=by omega
 have w2:¬3<W:=by omega
 have m1:¬m<0:=by omega
 have m2:¬511<m:=by omega
 have i17:(p:Int)<17:=by omega
 clear h p1 p16 hA hA1 hA2 hA3 hm hO hP hf1 hf2 hb1 hal hr1 hr2 hW
 have hz:ansZ=#[.int .i64 0,.int .i64 0,.int .i64 0,.slice none 0 0,.slice none 0 0,.int .i64 0,.int .i64 0,.int .i64 0,.int .i64 0,.int .i64 0,.int .i64 0]:=rfl
 rw[hz] at d1 d2 d3 l2 HB HC HO
 have b1:¬B<0:=by omega
 have b2:¬15<B:=by omega
 have y8:bits .and .i64 B 8=0:=by rcases hBv with rfl|rfl <;> decide
 clear hBv
 go_enter Tryz.func75,Tryz.ntmps75
 go_upto_region 1 with fail
 generalize (w.alloc (.cells A 38)).alloc (.cells #[.int .i64 0,.int .i64 0,.int .i64 0,.slice none 0 0,.slice none 0 0,.int .i64 0,.int .i64 0,.int .i64 0,.int .i64 0,.int .i64 0,.int .i64 0] 35)=v1 at *
 go_upto_region 6 with (go_at_call 150;(with_reducible refine HO.out.mono ?_);rintro e2 v2 ⟨rfl,x2,hk2,hp2,hu2,hs2⟩)
 have HK2:=Lib.hid hk2
 have hzz:∀j,x.bs j→j<w.heap.size:=HH.out.fs.lt
 have hne:∀i,w.heap.size≤i→¬x.bs i:=fun i hi e=>by have:=hzz i e;omega
 have HU2:=Lib.hid hu2
 have HS2:Hid (∀i,x2.bs i→x.bs i∨v1.heap.size≤i):=Lib.hid hs2
 have HC2:=Lib.hid (HC.out.upd hu2 (hne _ (Nat.le_refl _)))
 have HR2:=Lib.hid (HR.out.upd hu2 (hne _ (Nat.le_succ _)))
 have HP2:=Lib.hid hp2
 have c2:=hk2.fsp
 have HHD:=Lib.hid (hold_is hk2.fs (i:=2) (by decide) (n:=3) rfl (HP.out _ hp2).1 (HP.out _ hp2).2.1 (HP.out _ hp2).2.2)
 clear hk2 hp2 hu2 hs2 HO d1 d2 d3 l2
 go_upto_region 9 with (go_at_call 151;(with_reducible refine HHD.out.mono ?_);rintro e3 v3 ⟨rfl,hf3,hu3⟩)
 have HK3:=Lib.hid (HK2.out.holdG hf3 hu3)
 have HLT:Hid (w.heap.size+1<v1.heap.size):=Lib.hid HR.out.lt
 have hhb:∀i,w.heap.size≤i→i<v1.heap.size→¬i=fc.hb:=fun i h1 h2 e=>by
  have:=HS2.out fc.hb (HK2.out.fs.bm _ (.inr (.inr (.inl rfl))))
  rcases this with q|q
  ·exact hne _ h1 (e ▸ q)
  ·omega
 have HC3:=Lib.hid (HC2.out.upd hu3 (hhb _ (Nat.le_refl _) (by have:=HLT.out;omega)))
 have HR3:=Lib.hid (HR2.out.upd hu3 (hhb _ (Nat.le_succ _) HLT.out))
 have HU3:=Lib.hid hu3
 clear hf3 hu3 hhb HC2 HR2 HHD c2
 have HS:Hid (∀wx,Below v3.heap.size v3 wx→(wx.cell? ⟨k.K,6,none⟩=some (.pointer (some ⟨k.Fi,0,none⟩))∧wx.cell? ⟨w.heap.size,1,none⟩=some (.int .i64 W)∧wx.cell? ⟨w.heap.size,2,none⟩=some (.int .i64 B))):=Lib.hid (fun wx hb=>⟨by rw[(HK3.out.keep hb).kt.kr.cell (by decide),HK3.out.kt.c6],((HC3.out.keep hb).cell 1).trans HAA.out.1,((HC3.out.keep hb).cell 2).trans HAA.out.2⟩)
 have hFi:k.Fi<w.heap.size:=HH.out.kt.lt (by rw[HH.out.kt.tFi];decide)
 have hKF:k.K≠k.Fi:=fun e=>by
  have t1:=HH.out.kt.tK
  rw[e,HH.out.kt.tFi] at t1
  cases t1
 have HS4:Hid (∀wx w',Below v3.heap.size v3 wx→Upd (fun i=>i=k.Fi) wx w'→(w'.cell? ⟨k.K,6,none⟩=some (.pointer (some ⟨k.Fi,0,none⟩))∧w'.cell? ⟨w.heap.size,1,none⟩=some (.int .i64 W)∧w'.cell? ⟨w.heap.size,2,none⟩=some (.int .i64 B))):=Lib.hid (fun wx w' hb hu=>by
    obtain⟨t1,t2,t3⟩:=HS.out wx hb
    have lt:∀ {b o v},wx.cell? ⟨b,o,none⟩=some v→b<wx.heap.size:=fun e=>World.block_lt_of_cell? wx _ e
    exact⟨(hu.cell (lt t1) hKF).trans t1,(hu.cell (lt t2) (by omega)).trans t2,(hu.cell (lt t3) (by omega)).trans t3⟩)
 have HOP:Hid (∀wx,Below v3.heap.size v3 wx→Calls Tryz.prog 152 #[.pointer (some ⟨k.Fi,0,none⟩),.int .i64 p,.agg #[.int .i64 1,.int .i64 3,.int .i64 W,.bool false,.int .i64 0]] wx fun e w'=>∃j k0:Nat,j<8∧k0<32∧e=.returned (.tuple #[.int .i64 j,.int .i64 0])∧OpenLaw.OTab w' k.Fi (OpenLaw.updF s.fs k0 ⟨1,3,W,false,0,1⟩) (OpenLaw.updN s.fd (p*8+j) (k0+1))∧Upd (fun i=>i=k.Fi) wx w'):=Lib.hid (fun wx hb=>by
    refine(OpenLaw.open_is (kd:=1) (id:=3) (may:=W) (by decide) (by decide) (HK3.out.keep hb).kt.fi HPP.out.1 HPP.out.2 (by decide) (by have:=HWW.out;omega) HWW.out.2).mono ?_
    rintro e w' ⟨hkb,⟨j,k0,hj,-,-,hk0,-,-,rfl,ho⟩|⟨q,-⟩⟩
    · exact⟨j,k0,hj,hk0,rfl,ho,kb_upd hkb rfl⟩
    · exfalso
      rcases q with q|q
      · obtain⟨j,hj,e⟩:=HF1.out
        exact q j hj e
      · obtain⟨j,hj,e⟩:=HF2.out
        exact q j hj e)
 clear HAA HWW HF1 HF2 HPP
 go_region_held3 (fun wx=>wx.cell? ⟨k.K,6,none⟩=some (.pointer (some ⟨k.Fi,0,none⟩))∧wx.cell? ⟨w.heap.size,1,none⟩=some (.int .i64 W)∧wx.cell? ⟨w.heap.size,2,none⟩=some (.int .i64 B)) (first|(with_reducible exact HS.out _ (Below.refl _ _))|(with_reducible exact HS.out _ (Below.refl _ _).drew)|(with_reducible exact HS4.out _ _ (Below.refl _ _).drew HU4.out)|fail) (first|(go_at_call 152;(with_reducible refine(HOP.out _ (Below.refl _ _).drew).mono ?_);rintro e4 v4 ⟨j,k0,hj,hk0,rfl,ho4,hu4⟩;have HU4:=Lib.hid hu4;have HO4:=Lib.hid (And.intro hj (And.intro hk0 ho4));clear hj hk0 ho4 hu4)|fail)
 have HK4:=Lib.hid ((HK3.out.keep (Below.refl _ _).drew).files HO4.out.2.2 HU4.out)
 have hr4:=HR3.out.drew.upd HU4.out (by omega)
 obtain⟨hX,hone⟩:=ansN3' 0 (j:Int) 0
 have hst:=ans_st hr4 hX hone
 have HLD:=Lib.hid (ans_ldV hr4 hX)
 have hbd:=bd_aI (j:Int)
 have hu5:Upd (fun i=>i=w.heap.size+1) v4 (v4.setRow (w.heap.size+1) (ansV 0 j 0 (.slice none 0 0))):=Upd.setRow v4 _ rfl
 have HFIN:Hid (KF (v4.setRow (w.heap.size+1) (ansV 0 j 0 (.slice none 0 0))) k (OpenToG s p W j k0) fc (heldToG x2)∧Upd (fun i=>i=k.Fi∨x.bs i∨w.heap.size≤i) w (v4.setRow (w.heap.size+1) (ansV 0 j 0 (.slice none 0 0)))∧∀i,x2.bs i→x.bs i∨w.heap.size≤i):=Lib.hid (by
    have hlt1:=HLT.out
    have hs:∀i,x2.bs i→x.bs i∨w.heap.size+2≤i:=fun i e=>(HS2.out i e).imp_right fun q=>by omega
    have hz:∀i,s.tag i≠0→i<w.heap.size:=fun i e=>HH.out.kt.lt e
    refine⟨HK4.out.upd hu5 (fun i hi e=>?_) (fun i hi e=>?_),?_,fun i e=>(hs i e).imp_right fun q=>by omega⟩
    · have:=hz i hi;omega
    · rcases hs i hi with q|q
      · have:=hzz i q;omega
      · omega
    · have hhb:x.bs fc.hb∨w.heap.size≤fc.hb:=(hs fc.hb (HK2.out.fs.bm _ (.inr (.inr (.inl rfl))))).imp_right fun q=>by omega
      refine(((Upd.below HB.out).trans (HU2.out.mono fun i _ e=>.inr (.inl e))).trans (HU3.out.mono fun i _ e=>?_)).trans ((Upd.below (Below.refl v3.heap.size v3).drew).trans ((HU4.out.mono fun i _ e=>.inl e).trans (hu5.mono fun i _ e=>.inr (.inr (by omega)))))
      rw[e]
      exact .inr hhb)
 have HX:=Lib.hid (And.intro HO4.out.1 (And.intro HO4.out.2.1 HP2.out))
 clear hr4 hX hone hu5 HK4 HU4 HO4 HS HS4 HOP hFi hKF hzz hne
 generalize hZ:ansV 0 (j:Int) 0 (.slice none 0 0)=Z at hst HLD hbd HFIN ⊢
 have HZ:=Lib.hid hZ
 clear hZ
 go_wp2_with fail
 exact bodyPost_ret (v:=.agg Z) (by rw[results_cell1 rfl];simp[asAddr,Result.andThen,HLD.out]) rfl ⟨j,k0,x2,HX.out.1,HX.out.2.1,HX.out.2.2,HFIN.out.1,by rw[HZ.out],HFIN.out.2⟩
end
section
variable {w0 w:World} {k:KC} {s:KSt} {fc:FC} {x:FM} {p:Nat} {U K:Int} {a:Option Addr} {cap gc cc:Nat} {A:Array Value}
theorem spec_openGN (h:KF w0 k s fc x) (q:Who w0 s p 0 127 a cap gc cc) (p1:1≤p) {q0 f0:Nat}(hr:DirG x q0 f0) {m:Int}(hm:0≤m∧m≤511)(hA:A.size=7)(hA1:A[1]?=some (.int .i64 3))(hA2:A[2]?=some (.int .i64 1))(hA3:A[3]?=some (.int .i64 m))(hA4:A[4]?=some (.string ⟨#[103]⟩))
  (hM4:∀w,Calls Tryz.prog 167 #[.agg (stA (x.nd 0)),.agg (crA 0 127 a cap),.int .i64 4] w fun e w'=>e=.returned (.tuple #[.bool true,.int .i64 0])∧Below w.heap.size w w') (hM2:∀w,Calls Tryz.prog 167 #[.agg (stA (x.nd 0)),.agg (crA 0 127 a cap),.int .i64 2] w fun e w'=>e=.returned (.tuple #[.bool true,.int .i64 0])∧Below w.heap.size w w') (hh:x.nh<1000∧hcn (x.held 3)<1000) (hf1:∃j,j<8∧s.fd (p*8+j)=0) (hf2:∃k0,k0<32∧(s.fs k0).n=0) (hg1:¬x.bs gc) (hg2:gc≠k.Fi) :
  Spec w0 (KOutF w0.heap.size k fc s.tag x.bs (fun s' x' g e av _=>e=0∧∃j k0:Nat,j<8∧k0<32∧s'=OpenToG s p 3 j k0∧(FileG x' f0 m∧SameD x x')∧g=gc∧av=j)) 75 #[.pointer (some ⟨k.K,0,none⟩),.int .i64 p,.agg A]:=by
 intro w h0
 have h':=h.keep h0
 have q':=q.keep h0
 have hzz:∀j,x.bs j→j<w0.heap.size:=h.fs.lt
 have hz:=h0.size
 have hgc:gc<w0.heap.size:=World.block_lt_of_cell? w0 _ q.g
 have hFi:k.Fi<w0.heap.size:=h.kt.lt (by rw[h.kt.tFi];decide)
 refine(kopenG_is h' p1 q.p16 hA hA1 hA2 hA3 (by decide) (.inr rfl) hm (P:=fun x'=>(FileG x' f0 m∧SameD x x')∧x'.held=x.held∧x'.nh=x.nh) (fun wx hb=>(openedGN_is (h'.keep hb) (q'.keep hb) hr hm hA2 hA3 hA4 hM4 hM2).mono ?_) (fun x' hx'=>?_) hf1 hf2).mono ?_
 ·rintro e w' ⟨rfl,x',hk,hf,e1,e2,hu,hs⟩
  exact⟨rfl,x',hk,⟨hf,e1,e2⟩,hu,hs⟩
 ·obtain⟨pv,e⟩:=hx'.1.1.n2
  exact⟨by rw[e];exact(by decide:¬(1:Int)=0),by rw[hx'.2.2];exact hh.1,by rw[hx'.2.1];exact hh.2⟩
 ·rintro e w' ⟨j,k0,x2,hj,hk0,⟨hf,e1,e2⟩,hk,rfl,hu,hs⟩
  have hgg:¬(gc=k.Fi∨x.bs gc∨w.heap.size≤gc):=by
   rintro (e|e|e)
   ·exact hg2 e
   ·exact hg1 e
   ·omega
  refine⟨_,rfl,(ansN3' _ _ _).1,(ansN3' _ _ _).2,hu.mono fun i hi e=>?_,OpenToG s p 3 j k0,heldToG x2,gc,0,j,0,hk,fun i e=>.inl e,hs,(hu.cell (Nat.lt_of_lt_of_le hgc hz) hgg).trans q'.g,.inl hgc,rfl,⟨rfl,j,k0,hj,hk0,rfl,⟨?_,?_⟩,rfl,rfl⟩,hu.mono fun i _ e=>?_⟩
  ·rcases e with rfl|e|e
   ·exact hFi
   ·exact hzz i e
   ·omega
  ·exact⟨hf.1.n0,hf.1.n1,hf.1.n2,hf.1.nz,hf.1.G,hf.1.gi,hf.1.free,hf.1.na⟩
  ·exact⟨hf.2.s,hf.2.f,hf.2.wv,hf.2.wm,hf.2.wx,hf.2.sq⟩
  ·rcases e with rfl|e|e
   ·left;rw[h.kt.tFi];decide
   ·exact .inr (.inl e)
   ·exact .inr (.inr e)
end
end Go.Proofs.YtfkepfncgdlgoaaGreatDoor
