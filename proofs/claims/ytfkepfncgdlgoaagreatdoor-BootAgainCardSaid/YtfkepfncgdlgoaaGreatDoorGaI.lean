/- Package path at "g". Printed by gen_gai.py. -/
import Derived.Test.YtfkepfncgdlgoaaGreatDoorMnt2
import Derived.Test.YtfkepfncgdlgoaaGreatDoorGaH
namespace Go.Proofs.YtfkepfncgdlgoaaGreatDoor
open Go.RowKit Go.Maps
set_option linter.unusedVariables false
set_option linter.unusedSimpArgs false
set_option maxRecDepth 100000
set_option maxHeartbeats 800000
section
attribute [local go_sem ↓] mkS_eq
theorem gsplitG_is (w:World):Calls Tryz.prog 200 #[.string ⟨#[103]⟩,.string ⟨#[47]⟩,.int .i64 0,.int .i64 (-1)] w fun e w'=>∃g,e=.returned (.slice (some ⟨g,0,none⟩) 1 1)∧w.heap.size≤g∧Row w' g 9 #[.string ⟨#[103]⟩]∧Below w.heap.size w w':=by
 have HC:=Lib.hid (count1_is w ⟨#[103]⟩)
 have e0:Lib.countByte (⟨#[103]⟩:ByteArray).data.toList 47=0:=by decide
 rw[e0] at HC
 have hm:=mkS1 w
 have hr:=row_new w 9 #[.string ⟨#[]⟩]
 have y0:=hr.cell 0
 have z0:=hr.fz 0
 have HR:=Lib.hid hr
 have HB:=Lib.hid (Go.Joins.below_alloc1 w (.cells #[.string ⟨#[]⟩] 9))
 clear hr
 go_enter Tryz.func200,Tryz.ntmps200
 go_upto_region 8 with (go_at_call 263;(with_reducible refine HC.out.mono ?_);rintro e1 w1 ⟨rfl,rfl⟩)
 go_upto_region 9 with fail
 generalize w.alloc (.cells #[.string ⟨#[]⟩] 9)=w2 at *
 obtain⟨z,hz⟩:∃z,z=w.heap.size:=⟨_,rfl⟩
 rw[← hz] at y0 z0 HR ⊢
 have HZ:=Lib.hid hz
 clear hz hm
 go_wp2_with fail
 refine wp_loop_rounds 1 ?_
 rw[rounds_succ]
 go_wp2_with fail
 go_ret
 refine⟨z,rfl,Nat.le_of_eq HZ.out.symm,?_,HB.out.trans ((Upd.set (S:=fun j=>j=z) w2 (b:=z) (i:=0) (.string ⟨#[103]⟩) rfl).toBelow HB.out.size (fun k hk e=>by have e:k=z:=e;have:=HZ.out;omega))⟩
 rw[HR.out.setCell]
 exact HR.out.setRow _
end
section
attribute [local go_sem ↓] apS_eq
theorem ssplitG_is (w:World):Calls Tryz.prog 122 #[.string ⟨#[103]⟩,.string ⟨#[47]⟩] w fun e w'=>∃g,e=.returned (.slice (some ⟨g,0,none⟩) 1 1)∧w.heap.size≤g∧Row w' g 9 #[.string ⟨#[103]⟩]∧Below w.heap.size w w':=by
 have HG:=Lib.hid (gsplitG_is w)
 go_enter Tryz.func122,Tryz.ntmps122
 go_wp2_with (go_at_call 200;(with_reducible refine HG.out.mono ?_);rintro e1 w1 ⟨g,rfl,h⟩)
 go_ret
 exact⟨g,rfl,h⟩
theorem psplitG_is (w:World):Calls Tryz.prog 56 #[.string ⟨#[103]⟩] w fun e w'=>∃g c,e=.returned (.tuple #[.bool false,.slice (some ⟨g,0,none⟩) 1 c,.int .i64 0])∧w.heap.size≤g∧w'.cell? ⟨g,0,none⟩=some (.string ⟨#[103]⟩)∧1≤c∧c≤maxLen∧Below w.heap.size w w':=by
 have HG:=Lib.hid (ssplitG_is w)
 have hi:∀w,(Instr.index 9 (.string ⟨#[103]⟩) (.int .i64 0)).run Tryz.prog w=.ok (.int .u8 103) w:=fun w=>by kernel_rfl
 go_enter Tryz.func56,Tryz.ntmps56
 go_wp2_with (go_at_call 122;(with_reducible refine HG.out.mono ?_);rintro e1 w1 ⟨g,rfl,hg,hr,hb1⟩;have y0:=hr.cell 0;have HB1:=Lib.hid hb1;clear hr hb1 hg)
 refine wp_loop_rounds 2 ?_
 rw[rounds_succ]
 obtain⟨g2,c2,w2,hap,hg2,hc2,h1,h2,hb2⟩:=pushS w1 ⟨#[103]⟩
 have hcm:(c2:Int)≤9223372036854775807:=by unfold maxLen at h2;omega
 have HF:=Lib.hid (And.intro (Nat.le_trans HB1.out.size hg2) (And.intro hc2 (And.intro h1 (And.intro h2 (HB1.out.trans (hb2.mono HB1.out.size))))))
 clear hg2 hc2 h1 h2 hb2
 go_wp2_with fail
 rw[rounds_succ]
 have hi2:=hi w2
 go_wp2_with fail
 first|go_ret3|go_ret
 exact⟨g2,c2,rfl,HF.out⟩
end
section
attribute [local go_sem ↓] ld_crd bd_wlk
theorem pstartG_is (w:World) (F:Nat) {U K:Int}(hU:0≤U∧U≤99)(hK:0≤K∧K≤127) (a:Option Addr) (cap:Nat)(hc:cap≤maxLen) {gc cc:Nat}(h0:w.cell? ⟨gc,0,none⟩=some (.int .i64 1))(h1:1≤cc)(h2:cc≤maxLen) :
  Calls Tryz.prog 238 #[.iface 64 (.pointer (some ⟨F,0,none⟩)),.slice none 0 0,.agg (crA U K a cap),.slice (some ⟨gc,0,none⟩) 1 cc,.string ⟨#[103]⟩] w fun e w'=>∃W sp cp gl cl,e=.returned (.tuple #[.pointer (some ⟨W,0,none⟩),.slice (some ⟨gl,0,none⟩) 1 cl,.int .i64 0])∧w.heap.size≤W∧Row w' W 366 (wkA F U K a cap (.slice sp 1 cp))∧w'.ownsRow w.heap.size 3 1 (.slice sp 1 cp) 1 [.int .i64 1]∧(Value.slice sp 1 cp).ownBlock≠some W∧gl≠W∧(∀g,(Value.slice sp 1 cp).ownBlock=some g→gl<g)∧w.heap.size≤gl∧w'.cell? ⟨gl,0,none⟩=some (.string ⟨#[103]⟩)∧1≤cl∧cl≤maxLen∧Below w.heap.size w w':=by
 have hr:=row_new w 56 (crA U K a cap)
 have l0:=hr.ld0 Tryz.underlying56 rfl (by unfold crA;kernel_rfl)
 have HR:=Lib.hid hr
 have HB:=Lib.hid (Go.Joins.below_alloc1 w (.cells (crA U K a cap) 56))
 have hlt:gc<w.heap.size:=World.block_lt_of_cell? w _ h0
 have HCK:=Lib.hid (fun wx=>crchk_is wx hU hK a cap hc)
 have hsz:(w.alloc (.cells (crA U K a cap) 56)).heap.size=w.heap.size+1:=by simp
 have hone:∀i,i<([1]:List Int).length→w.cell? ⟨gc,0+i,none⟩=some (Value.int .i64 (([1]:List Int).getD i 0)):=by
  intro i hi
  have:i=0:=by simp only[List.length_cons,List.length_nil] at hi;omega
  subst this
  exact h0
 have hat:At (Value.int .i64) 0 w (.slice (some ⟨gc,0,none⟩) 1 cc) [1]:=⟨_,_,rfl,h1,h2,.inr ⟨gc,0,rfl,hlt,hone⟩⟩
 have HCL:=Lib.hid (fun wx (hb:Below w.heap.size w wx)=>cloneI_is (w:=wx) (l:=[1]) (by decide) (hat.keep hb))
 have HL:=Lib.hid (fun wx (hb:Below (w.alloc (.cells (crA U K a cap) 56)).heap.size (w.alloc (.cells (crA U K a cap) 56)) wx)=>(hr.keep hb).ld0 Tryz.underlying56 rfl (by unfold crA;kernel_rfl))
 have hbd:=fun w a2 n c2=>bd_wlk_run w F U K a cap a2 n c2
 clear hr hat hone h0 h1 h2 hlt hU hK hc
 generalize crA U K a cap=A at *
 generalize hw0:w.alloc (.cells A 56)=w0 at *
 go_enter Tryz.func238,Tryz.ntmps238
 go_upto_region 1 with fail
 have hsz:w.heap.size≤w0.heap.size:=HB.out.size
 clear hw0
 go_upto_region 7 with (first|(go_at_call 234;refine(mcheck_nil _).mono ?_;rintro e1 w1 ⟨rfl,rfl⟩;have HCK0:=Lib.hid (HCK.out w0))|(go_at_call 183;refine HCK0.out.mono ?_;rintro e2 w2 ⟨rfl,hb2⟩;have HB2:=Lib.hid hb2;clear hb2))
 have HSP:=Lib.hid (psplitG_is w2)
 go_upto_region 10 with (go_at_call 56;refine HSP.out.mono ?_;rintro e3 w3 ⟨gl,cl,rfl,hgl,hcl,q1,q2,hb3⟩)
 have hlgl:gl<w3.heap.size:=World.block_lt_of_cell? w3 _ hcl
 have HG:=Lib.hid (And.intro (Nat.le_trans hsz (Nat.le_trans HB2.out.size hgl)) (And.intro hcl (And.intro q1 (And.intro q2 hlgl))))
 have HB3:=Lib.hid (HB2.out.trans (hb3.mono HB2.out.size))
 clear hgl hcl q1 q2 hlgl hb3 l0
 have HK:Hid (∀wx,Below w3.heap.size w3 wx→(ldR 56 (.pointer (some ⟨w.heap.size,0,none⟩))).run Tryz.prog wx=.ok (.agg A) wx):=Lib.hid (fun wx hb=>HL.out _ (HB3.out.trans (hb.mono HB3.out.size)))
 have HB4:=Lib.hid (HB.out.trans (HB3.out.mono HB.out.size))
 go_upto_region 12 with fail
 go_region_held3 (fun wx=>(ldR 56 (.pointer (some ⟨w.heap.size,0,none⟩))).run Tryz.prog wx=.ok (.agg A) wx) (first|(with_reducible exact HK.out _ (Below.refl _ _))|(with_reducible exact HK.out _ (Below.refl _ _).drew)|(with_reducible exact HK.out _ HB5.out)|(with_reducible exact HK.out _ (HB5.out.alloc HB5.out.size _))|fail) (first|(go_at_call 127;(with_reducible refine(HCL.out _ HB4.out.drew).mono ?_);rintro e4 w4 ⟨v4,rfl,ho4,hb4⟩;obtain⟨pa,pc,rfl⟩:=own_form ho4;have HO:=Lib.hid ho4;have HB5:=Lib.hid ((Below.refl w3.heap.size w3).drew.trans hb4);clear ho4 hb4)|fail)
 have HB6:=Lib.hid (Go.Joins.below_alloc1 w4 (.cells (wkA F U K a cap (.slice pa 1 pc)) 366))
 have HR6:=Lib.hid (row_new w4 366 (wkA F U K a cap (.slice pa 1 pc)))
 generalize w4.alloc (.cells (wkA F U K a cap (.slice pa 1 pc)) 366)=w6 at *
 generalize hZ:wkA F U K a cap (.slice pa 1 pc)=Z at HR6 ⊢
 have HZ:=Lib.hid hZ
 clear hZ
 go_wp2_with fail
 go_ret3
 obtain⟨g1,g2,g3,g4,g5⟩:=HG.out
 have hz5:w3.heap.size≤w4.heap.size:=HB5.out.size
 have hzb:=HB4.out.size
 refine⟨w4.heap.size,pa,pc,gl,cl,rfl,Nat.le_trans hzb hz5,(by rw[HZ.out];exact HR6.out),owns_keep (owns_base HO.out hzb) HB6.out,fun e=>by have:=(HO.out.lt _ e).2;omega,fun e=>by omega,fun g e=>Nat.lt_of_lt_of_le g5 (HO.out.lt _ e).1,g1,?_,g3,g4,HB4.out.trans ((HB5.out.trans (HB6.out.mono hz5)).mono hzb)⟩
 rw[← g2]
 exact(HB5.out.trans (HB6.out.mono hz5)).cell (p:=⟨gl,0,none⟩) g5
end
section
variable {w:World} {c:FC} {x:FM}
theorem pwalkGN_is {b:Nat} {U K:Int} {a:Option Addr} {cap g cp:Nat}(h:FSt w c x)(hk:(x.nd 0).k=2) {q0:Nat}(hp:(x.nd 0).ps=[(q0:Int)])(hp0:q0≠0)(hp1:q0<256)(hs:(x.nd 0).sz=16)(hf:(fsec x q0).take 16=entL)(hw:Row w b 366 (wkA c.F U K a cap (.slice (some ⟨g,0,none⟩) 1 cp)))(h3:w.cell? ⟨g,0,none⟩=some (.int .i64 1))(h1:1≤cp)(h2:cp≤maxLen)
  (hM:∀w,Calls Tryz.prog 167 #[.agg (stA (x.nd 0)),.agg (crA U K a cap),.int .i64 4] w fun e w'=>e=.returned (.tuple #[.bool true,.int .i64 0])∧Below w.heap.size w w')
  {gl cl:Nat} (hgl:w.cell? ⟨gl,0,none⟩=some (.string ⟨#[103]⟩)) (k1:1≤cl) (k2:cl≤maxLen) :
  Calls Tryz.prog 239 #[.pointer (some ⟨b,0,none⟩),.slice (some ⟨gl,0,none⟩) 1 cl,.bool true] w fun e w'=>e=.returned (.int .i64 4)∧Below w.heap.size w w':=by
 have hg:g<w.heap.size:=World.block_lt_of_cell? w _ h3
 have HMAY:=Lib.hid (pmay_is h hk hw h3 h1 h2 hM)
 have HTOP:=Lib.hid (fun wx (hb:Below w.heap.size w wx)=>ptop_is (hw.keep hb) ((hb.cell (p:=⟨g,0,none⟩) hg).trans h3) h1 h2)
 have HLK:=Lib.hid (fun wx (hb:Below w.heap.size w wx)=>lookG_is (h.keep hb) (i:=0) (by decide) (n:=1) rfl hk hp hp0 hp1 hs hf)
 have HC0:=Lib.hid (fun wx (hb:Below w.heap.size w wx)=>(show wx.cell? ⟨b,0,none⟩=some (.iface 64 (.pointer (some ⟨c.F,0,none⟩))) from(hw.keep hb).cell 0))
 have hms:=method_look
 have hcm:(cl:Int)≤9223372036854775807:=by unfold maxLen at k2;omega
 have hc1:(1:Int)≤(cl:Int):=by omega
 clear h hk hp hs hp0 hp1 hf hw h3 h1 h2 hM hg k2
 go_enter Tryz.func239,Tryz.ntmps239
 go_wp2_with fail
 refine wp_loop_rounds 1 ?_
 rw[rounds_succ]
 go_upto_region 12 with (go_at_call 289;(with_reducible refine HMAY.out.mono ?_);rintro e1 w1 ⟨rfl,hb1⟩)
 have HB1:=Lib.hid hb1
 generalize (if cl=1 then (some ⟨gl,0,none⟩:Option Addr) else some ⟨gl,1,none⟩)=al at *
 have a0:=HC0.out _ hb1
 have HBO:Hid (∀wx,Below w1.heap.size w1 wx→(Below w1.heap.size w1 wx∧wx.cell? ⟨b,0,none⟩=some (.iface 64 (.pointer (some ⟨c.F,0,none⟩))))):=Lib.hid (fun wx hb=>⟨hb,HC0.out _ (HB1.out.trans (hb.mono HB1.out.size))⟩)
 have HT1:Hid (∀wx,Below w1.heap.size w1 wx→Calls Tryz.prog 295 #[.pointer (some ⟨b,0,none⟩)] wx fun e w'=>e=.returned (.int .i64 1)∧∃k,w'=wx.drewN k):=Lib.hid (fun wx hb=>HTOP.out _ (HB1.out.trans (hb.mono HB1.out.size)))
 have HL1:Hid (∀wx,Below w1.heap.size w1 wx→Calls Tryz.prog 57 #[.pointer (some ⟨c.F,0,none⟩),.int .i64 1,.string ⟨#[103]⟩] wx fun e w'=>e=.returned (.tuple #[.int .i64 0,.int .i64 4])∧Below wx.heap.size wx w'):=Lib.hid (fun wx hb=>HLK.out _ (HB1.out.trans (hb.mono HB1.out.size)))
 clear hb1 HMAY HTOP HLK HC0
 go_region_held3 (fun wx=>wx.cell? ⟨b,0,none⟩=some (.iface 64 (.pointer (some ⟨c.F,0,none⟩)))) (first|(with_reducible exact(HBO.out _ (Below.refl _ _)).2)|(with_reducible exact(HBO.out _ (Below.refl _ _).drew).2)|(with_reducible exact(HBO.out _ (below_drewN (Below.refl _ _) _)).2)|(with_reducible exact(HBO.out _ HB2.out).2)|fail)
   (first|(go_at_call 295;(with_reducible refine(HT1.out _ (Below.refl _ _).drew).mono ?_);rintro e9 w9 ⟨rfl,k9,rfl⟩)|(go_at_call 57;(with_reducible refine(HL1.out _ (below_drewN (Below.refl _ _) _)).mono ?_);rintro e2 w2 ⟨rfl,hb2⟩;have HB2:=Lib.hid ((below_drewN (Below.refl w1.heap.size w1) _).trans hb2);clear hb2))
 go_wp2_with fail
 go_ret
 exact⟨rfl,HB1.out.trans (HB2.out.mono HB1.out.size)⟩
end
section
variable {w:World} {c:FC} {x:FM}
attribute [local go_sem ↓] ld_crd
theorem pWalkGN_is {U K:Int} {a:Option Addr} {cap gc cc:Nat}(h:FSt w c x)(hk:(x.nd 0).k=2) {q0:Nat}(hp:(x.nd 0).ps=[(q0:Int)])(hp0:q0≠0)(hp1:q0<256)(hs:(x.nd 0).sz=16)(hf:(fsec x q0).take 16=entL)(hU:0≤U∧U≤99)(hK:0≤K∧K≤127)(hc:cap≤maxLen)(h0:w.cell? ⟨gc,0,none⟩=some (.int .i64 1))(h1:1≤cc)(h2:cc≤maxLen)
  (hM:∀w,Calls Tryz.prog 167 #[.agg (stA (x.nd 0)),.agg (crA U K a cap),.int .i64 4] w fun e w'=>e=.returned (.tuple #[.bool true,.int .i64 0])∧Below w.heap.size w w') :
  Calls Tryz.prog 166 #[.iface 64 (.pointer (some ⟨c.F,0,none⟩)),.slice none 0 0,.agg (crA U K a cap),.slice (some ⟨gc,0,none⟩) 1 cc,.string ⟨#[103]⟩,.bool true] w fun e w'=>e=.returned (.tuple #[.slice none 0 0,.int .i64 4])∧Below w.heap.size w w':=by
 have hr:=row_new w 56 (crA U K a cap)
 have l0:=hr.ld0 Tryz.underlying56 rfl (by unfold crA;kernel_rfl)
 have hal:=Go.Joins.below_alloc1 w (.cells (crA U K a cap) 56)
 have hlt:gc<w.heap.size:=World.block_lt_of_cell? w _ h0
 have HS:=Lib.hid (pstartG_is (w.alloc (.cells (crA U K a cap) 56)) c.F hU hK a cap hc ((hal.cell (p:=⟨gc,0,none⟩) hlt).trans h0) h1 h2)
 have h':=h.keep hal
 have HW:Hid (∀w1 W sp cp gl cl,Below (w.alloc (.cells (crA U K a cap) 56)).heap.size (w.alloc (.cells (crA U K a cap) 56)) w1→Row w1 W 366 (wkA c.F U K a cap (.slice sp 1 cp))→w1.ownsRow (w.alloc (.cells (crA U K a cap) 56)).heap.size 3 1 (.slice sp 1 cp) 1 [.int .i64 1]→w1.cell? ⟨gl,0,none⟩=some (.string ⟨#[103]⟩)→1≤cl→cl≤maxLen→Calls Tryz.prog 239 #[.pointer (some ⟨W,0,none⟩),.slice (some ⟨gl,0,none⟩) 1 cl,.bool true] w1 fun e w'=>e=.returned (.int .i64 4)∧Below w1.heap.size w1 w'):=Lib.hid (fun w1 W sp cp gl cl hb hw ho hgl k1 k2=>by
    obtain⟨g,rfl,hgB,hg,q1,q2,q3⟩:=own1 ho
    exact pwalkGN_is (h'.keep hb) hk hp hp0 hp1 hs hf hw q3 q1 q2 hM hgl k1 k2)
 have HB:=Lib.hid hal
 clear hr hal hlt h h' hk hp hs hp0 hp1 hf hU hK hc h0 h1 h2 hM
 generalize crA U K a cap=A at *
 generalize hw0:w.alloc (.cells A 56)=w0 at *
 go_enter Tryz.func166,Tryz.ntmps166
 go_upto_region 4 with (go_at_call 238;(with_reducible refine HS.out.mono ?_);rintro e1 w1 ⟨W,sp,cp,gl,cl,rfl,hW,hrw,how,hn,hn2,hn3,hn4,hgl,k1,k2,hb1⟩)
 have HW1:=Lib.hid (HW.out w1 W sp cp gl cl hb1 hrw how hgl k1 k2)
 have HB1:=Lib.hid (HB.out.trans (hb1.mono HB.out.size))
 clear hW hrw how hn hn2 hn3 hn4 hgl k1 k2 hb1
 go_wp2_with (go_at_call 239;(with_reducible refine HW1.out.mono ?_);rintro e2 w2 ⟨rfl,hb2⟩)
 go_ret2
 exact⟨rfl,HB1.out.trans (hb2.mono HB1.out.size)⟩
theorem pLastG_is {U K:Int} {a:Option Addr} {cap gc cc:Nat}(h:FSt w c x)(hk:(x.nd 0).k=2)(hU:0≤U∧U≤99)(hK:0≤K∧K≤127)(hc:cap≤maxLen)(h0:w.cell? ⟨gc,0,none⟩=some (.int .i64 1))(h1:1≤cc)(h2:cc≤maxLen)
  (hM:∀w,Calls Tryz.prog 167 #[.agg (stA (x.nd 0)),.agg (crA U K a cap),.int .i64 4] w fun e w'=>e=.returned (.tuple #[.bool true,.int .i64 0])∧Below w.heap.size w w') :
  Calls Tryz.prog 230 #[.iface 64 (.pointer (some ⟨c.F,0,none⟩)),.slice none 0 0,.agg (crA U K a cap),.slice (some ⟨gc,0,none⟩) 1 cc,.string ⟨#[103]⟩] w fun e w'=>∃g cg,e=.returned (.tuple #[.slice (some ⟨g,0,none⟩) 1 cg,.string ⟨#[103]⟩,.int .i64 0])∧w'.cell? ⟨g,0,none⟩=some (.int .i64 1)∧1≤cg∧cg≤maxLen∧Below w.heap.size w w':=by
 have hr:=row_new w 56 (crA U K a cap)
 have l0:=hr.ld0 Tryz.underlying56 rfl (by unfold crA;kernel_rfl)
 have hal:=Go.Joins.below_alloc1 w (.cells (crA U K a cap) 56)
 have hlt:gc<w.heap.size:=World.block_lt_of_cell? w _ h0
 have HS:=Lib.hid (pstartG_is (w.alloc (.cells (crA U K a cap) 56)) c.F hU hK a cap hc ((hal.cell (p:=⟨gc,0,none⟩) hlt).trans h0) h1 h2)
 have h':=h.keep hal
 have HM:Hid (∀w1 W sp cp,Below (w.alloc (.cells (crA U K a cap) 56)).heap.size (w.alloc (.cells (crA U K a cap) 56)) w1→Row w1 W 366 (wkA c.F U K a cap (.slice sp 1 cp))→w1.ownsRow (w.alloc (.cells (crA U K a cap) 56)).heap.size 3 1 (.slice sp 1 cp) 1 [.int .i64 1]→Calls Tryz.prog 289 #[.pointer (some ⟨W,0,none⟩)] w1 fun e w'=>e=.returned (.int .i64 0)∧Below w1.heap.size w1 w'):=Lib.hid (fun w1 W sp cp hb hw ho=>by
    obtain⟨g,rfl,hgB,hg,q1,q2,q3⟩:=own1 ho
    exact pmay_is (h'.keep hb) hk hw q3 q1 q2 hM)
 have HB:=Lib.hid hal
 clear hr hal hlt h h' hk hU hK hc h0 h1 h2 hM
 generalize crA U K a cap=A at *
 generalize hw0:w.alloc (.cells A 56)=w0 at *
 go_enter Tryz.func230,Tryz.ntmps230
 go_upto_region 2 with (go_at_call 238;(with_reducible refine HS.out.mono ?_);rintro e1 w1 ⟨W,sp,cp,gl,cl,rfl,hW,hrw,how,hn,hn2,hn3,hn4,hgl,k1,k2,hb1⟩)
 have HM1:=Lib.hid (HM.out w1 W sp cp hb1 hrw how)
 have HB1:=Lib.hid (HB.out.trans (hb1.mono HB.out.size))
 have HR1:=Lib.hid (And.intro hrw how)
 have hlgl:gl<w1.heap.size:=World.block_lt_of_cell? w1 _ hgl
 have hlm:(cl:Int)≤9223372036854775807:=by unfold maxLen at k2;omega
 have HP:=Lib.hid (pwalk0_is w1 W gl cl k2)
 clear hW hrw how hn hn2 hn3 hn4 hb1 k2
 go_upto_region 12 with (first|(go_at_call 239;(with_reducible refine HP.out.mono ?_);rintro e2 w2 ⟨rfl,rfl⟩)|(go_at_call 289;(with_reducible refine HM1.out.mono ?_);rintro e3 w3 ⟨rfl,hb3⟩))
 have HB3:=Lib.hid hb3
 have HL:Hid (∀wx,Below w1.heap.size w1 wx→(wx.cell? ⟨W,8,none⟩=some (.slice sp 1 cp)∧wx.cell? ⟨gl,0,none⟩=some (.string ⟨#[103]⟩))):=Lib.hid (fun wx hb=>⟨(HR1.out.1.keep hb).cell 8,(hb.cell (p:=⟨gl,0,none⟩) hlgl).trans hgl⟩)
 have HCL:Hid (∀wx,Below w1.heap.size w1 wx→Calls Tryz.prog 127 #[.slice sp 1 cp] wx (CloneI [1] wx)):=Lib.hid (fun wx hb=>cloneI_is (l:=[1]) (by decide) (at_of_owned (d:=0) (f:=i64V) (xs:=[1]) (owns_keep HR1.out.2 hb)))
 clear hb3 hgl hlgl HM1 HP
 have yw:IntKind.i64.wrap 0=0:=by decide
 go_region_held3 (fun wx=>wx.cell? ⟨W,8,none⟩=some (.slice sp 1 cp)∧wx.cell? ⟨gl,0,none⟩=some (.string ⟨#[103]⟩)) (first|(with_reducible exact HL.out _ HB3.out)|(with_reducible exact HL.out _ HB3.out.drew)|(with_reducible exact HL.out _ HB4.out)|fail) (first|(go_at_call 127;(with_reducible refine(HCL.out _ HB3.out.drew).mono ?_);rintro e4 w4 ⟨v4,rfl,ho4,hb4⟩;obtain⟨pa,pc,rfl⟩:=own_form ho4;have HO:=Lib.hid ho4;have HB4:=Lib.hid (HB3.out.drew.trans (hb4.mono HB3.out.drew.size));clear ho4 hb4)|fail)
 all_goals
  obtain⟨g3,rfl,q1,q2,q3,q4⟩:=own_block HO.out (by decide)
  go_wp2_with fail
  go_ret3
  exact⟨g3,pc,rfl,HO.out.cells (g:=g3) rfl 0 (.int .i64 1) rfl,q3,q4,HB1.out.trans (HB4.out.mono HB1.out.size)⟩
end
end Go.Proofs.YtfkepfncgdlgoaaGreatDoor
