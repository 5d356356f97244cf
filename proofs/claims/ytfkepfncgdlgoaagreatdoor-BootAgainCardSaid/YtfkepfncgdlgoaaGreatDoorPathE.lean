/- The walks of package mount where nothing is mounted; path's walker: top, start. path's walker over FS: may. path's walker over FS: walk at no names and at "f". path's walker over FS: walk at "f" where it is. -/
import Derived.Test.YtfkepfncgdlgoaaGreatDoorPathA
import Derived.Deep.CutBlock
import Derived.StillTailTactics
namespace Go.Proofs.YtfkepfncgdlgoaaGreatDoor
open Go.RowKit Go.Maps
set_option linter.unusedVariables false
set_option linter.unusedSimpArgs false
set_option maxRecDepth 100000
set_option maxHeartbeats 1000000
theorem mcheck_nil (w:World):Calls Tryz.prog 234 #[.slice none 0 0] w fun e w'=>e=.returned (.int .i64 0)∧w=w':=by
 go_enter Tryz.func234,Tryz.ntmps234
 go_wp2
 refine wp_loop_rounds 1 ?_
 rw[rounds_succ]
 go_wp2
 refine wp_loop_rounds 1 ?_
 rw[rounds_succ]
 go_wp2
 go_ret
 exact⟨rfl,rfl⟩
theorem minode_is (n:Int)(h1:1≤n)(h2:n≤32) (w:World):Calls Tryz.prog 291 #[.int .i64 n] w fun e w'=>e=.returned (.bool true)∧w=w':=by
 go_enter Tryz.func291,Tryz.ntmps291
 go_wp2
 go_ret
 exact⟨rfl,rfl⟩
theorem mindexf_nil (f:Value) (w:World):Calls Tryz.prog 293 #[.slice none 0 0,f] w fun e w'=>e=.returned (.int .i64 (-1))∧w=w':=by
 go_enter Tryz.func293,Tryz.ntmps293
 go_wp2_with fail
 refine wp_loop_rounds 1 ?_
 rw[rounds_succ]
 go_wp2
 go_ret
 exact⟨rfl,rfl⟩
theorem mfind_nil (n:Int) (w:World):Calls Tryz.prog 235 #[.slice none 0 0,.int .i64 n] w fun e w'=>e=.returned (.int .i64 (-1))∧Below w.heap.size w w':=by
 go_enter Tryz.func235,Tryz.ntmps235
 go_wp2_with fail
 refine(mindexf_nil _ _).mono ?_
 rintro e w1 ⟨rfl,rfl⟩
 go_wp2
 go_ret
 exact⟨rfl,Go.Joins.below_alloc1 _ _⟩
theorem mdown_nil (n:Int) (w:World):Calls Tryz.prog 292 #[.slice none 0 0,.int .i64 n] w fun e w'=>e=.returned (.tuple #[.int .i64 n,.bool true])∧Below w.heap.size w w':=by
 go_enter Tryz.func292,Tryz.ntmps292
 go_wp2_with fail
 refine wp_loop_rounds 2 ?_
 rw[rounds_succ]
 go_wp2_with fail
 refine(mfind_nil _ _).mono ?_
 rintro e w1 ⟨rfl,hb1⟩
 go_wp2
 go_ret2
 exact⟨rfl,hb1⟩
theorem mdowns_is (n:Int)(h1:1≤n)(h2:n≤32) (w:World):Calls Tryz.prog 297 #[.slice none 0 0,.int .i64 n] w fun e w'=>e=.returned (.tuple #[.int .i64 n,.int .i64 0])∧Below w.heap.size w w':=by
 have HI:=Lib.hid (minode_is n h1 h2 w)
 clear h1 h2
 go_enter Tryz.func297,Tryz.ntmps297
 go_wp2_with (first|(go_at_call 234;refine(mcheck_nil _).mono ?_;rintro e w1 ⟨rfl,rfl⟩)|(go_at_call 291;refine HI.out.mono ?_;rintro e w1 ⟨rfl,rfl⟩)|(go_at_call 292;refine(mdown_nil _ _).mono ?_;rintro e w1 ⟨rfl,hb1⟩))
 go_ret2
 exact⟨rfl,hb1⟩
def wkA (F:Nat) (U K:Int) (a:Option Addr) (cap:Nat) (sv:Value):Array Value:=#[.iface 64 (.pointer (some ⟨F,0,none⟩)),.slice none 0 0,.int .i64 U,.int .i64 0,.slice a 0 cap,.int .i64 K,.int .i64 0,.int .i64 0,sv,.int .i64 0]
theorem ptop_is {w:World} {b F:Nat} {U K:Int} {a:Option Addr} {cap g cp:Nat}(h:Row w b 366 (wkA F U K a cap (.slice (some ⟨g,0,none⟩) 1 cp)))(h3:w.cell? ⟨g,0,none⟩=some (.int .i64 1))(h1:1≤cp)(h2:cp≤maxLen):Calls Tryz.prog 295 #[.pointer (some ⟨b,0,none⟩)] w fun e w'=>e=.returned (.int .i64 1)∧∃k,w'=w.drewN k:=by
 have c8:w.cell? ⟨b,8,none⟩=some (.slice (some ⟨g,0,none⟩) 1 cp):=h.cell 8
 have hmx:(cp:Int)≤9223372036854775807:=by unfold maxLen at h2;omega
 clear h h2
 go_enter Tryz.func295,Tryz.ntmps295
 go_wp2_with fail
 go_quiet (fail)
 go_wp2_with fail
 go_ret
 exact⟨rfl,_,rfl⟩
theorem bd_wlk (ps:Array (Nat×Value)):Instr.build 366 ps=bdR 366 ps:=rfl
theorem bd_wlk_run (w:World) (F:Nat) (U K:Int) (a:Option Addr) (cap:Nat) (sp:Option Addr) (n cp:Nat):(bdR 366 #[(0,.iface 64 (.pointer (some ⟨F,0,none⟩))),(1,.slice none 0 0),(2,.agg (crA U K a cap)),(3,.slice sp n cp)]).run Tryz.prog w=.ok (.agg (wkA F U K a cap (.slice sp n cp))) w:=by unfold crA wkA;kernel_rfl
section
attribute [local go_sem ↓] ld_crd bd_wlk
theorem pstart_is (w:World) (F:Nat) {U K:Int}(hU:0≤U∧U≤99)(hK:0≤K∧K≤127) (a:Option Addr) (cap:Nat)(hc:cap≤maxLen) {gc cc:Nat}(h0:w.cell? ⟨gc,0,none⟩=some (.int .i64 1))(h1:1≤cc)(h2:cc≤maxLen) :
  Calls Tryz.prog 238 #[.iface 64 (.pointer (some ⟨F,0,none⟩)),.slice none 0 0,.agg (crA U K a cap),.slice (some ⟨gc,0,none⟩) 1 cc,.string ⟨#[102]⟩] w fun e w'=>∃W sp cp gl cl,e=.returned (.tuple #[.pointer (some ⟨W,0,none⟩),.slice (some ⟨gl,0,none⟩) 1 cl,.int .i64 0])∧w.heap.size≤W∧Row w' W 366 (wkA F U K a cap (.slice sp 1 cp))∧w'.ownsRow w.heap.size 3 1 (.slice sp 1 cp) 1 [.int .i64 1]∧(Value.slice sp 1 cp).ownBlock≠some W∧gl≠W∧(∀g,(Value.slice sp 1 cp).ownBlock=some g→gl<g)∧w.heap.size≤gl∧w'.cell? ⟨gl,0,none⟩=some (.string ⟨#[102]⟩)∧1≤cl∧cl≤maxLen∧Below w.heap.size w w':=by
 have hr:=row_new w 56 (crA U K a cap)
 have l0:=hr.ld0 Tryz.underlying56 rfl (by unfold crA;kernel_rfl)
 have HR:=Lib.hid hr
 have HB:=Lib.hid (Go.Joins.below_alloc1 w (.cells (crA U K a cap) 56))
 have hlt:gc<w.heap.size:=World.block_lt_of_cell? w _ h0
 have HCK:=Lib.hid (fun wx=>crchk_is wx hU hK a cap hc)
 have hsz:(w.alloc (.cells (crA U K a cap) 56)).heap.size=w.heap.size+1:=by simp
 have hone:∀i,i<([1]:List Int).length→w.cell? ⟨gc,0+i,none⟩=some (Value.int .i64 (([1]:List Int).getD i 0)):=by
  intro i hi
  have:i=0:=by simp only[List.length_cons,List.length_nil] at hi;omega
  subst this
  exact h0
 have hat:At (Value.int .i64) 0 w (.slice (some ⟨gc,0,none⟩) 1 cc) [1]:=⟨_,_,rfl,h1,h2,.inr ⟨gc,0,rfl,hlt,hone⟩⟩
 have HCL:=Lib.hid (fun wx (hb:Below w.heap.size w wx)=>cloneI_is (w:=wx) (l:=[1]) (by decide) (hat.keep hb))
 have HL:=Lib.hid (fun wx (hb:Below (w.alloc (.cells (crA U K a cap) 56)).heap.size (w.alloc (.cells (crA U K a cap) 56)) wx)=>(hr.keep hb).ld0 Tryz.underlying56 rfl (by unfold crA;kernel_rfl))
 have hbd:=fun w a2 n c2=>bd_wlk_run w F U K a cap a2 n c2
 clear hr hat hone h0 h1 h2 hlt hU hK hc
 generalize crA U K a cap=A at *
 generalize hw0:w.alloc (.cells A 56)=w0 at *
 go_enter Tryz.func238,Tryz.ntmps238
 go_upto_region 1 with fail
 have hsz:w.heap.size≤w0.heap.size:=HB.out.size
 clear hw0
 go_upto_region 7 with (first|(go_at_call 234;refine(mcheck_nil _).mono ?_;rintro e1 w1 ⟨rfl,rfl⟩;have HCK0:=Lib.hid (HCK.out w0))|(go_at_call 183;refine HCK0.out.mono ?_;rintro e2 w2 ⟨rfl,hb2⟩;have HB2:=Lib.hid hb2;clear hb2))
 have HSP:=Lib.hid (psplit_is w2)
 go_upto_region 10 with (go_at_call 56;refine HSP.out.mono ?_;rintro e3 w3 ⟨gl,cl,rfl,hgl,hcl,q1,q2,hb3⟩)
 have hlgl:gl<w3.heap.size:=World.block_lt_of_cell? w3 _ hcl
 have HG:=Lib.hid (And.intro (Nat.le_trans hsz (Nat.le_trans HB2.out.size hgl)) (And.intro hcl (And.intro q1 (And.intro q2 hlgl))))
 have HB3:=Lib.hid (HB2.out.trans (hb3.mono HB2.out.size))
 clear hgl hcl q1 q2 hlgl hb3 l0
 have HK:Hid (∀wx,Below w3.heap.size w3 wx→(ldR 56 (.pointer (some ⟨w.heap.size,0,none⟩))).run Tryz.prog wx=.ok (.agg A) wx):=Lib.hid (fun wx hb=>HL.out _ (HB3.out.trans (hb.mono HB3.out.size)))
 have HB4:=Lib.hid (HB.out.trans (HB3.out.mono HB.out.size))
 go_upto_region 12 with fail
 go_region_held3 (fun wx=>(ldR 56 (.pointer (some ⟨w.heap.size,0,none⟩))).run Tryz.prog wx=.ok (.agg A) wx) (first|(with_reducible exact HK.out _ (Below.refl _ _))|(with_reducible exact HK.out _ (Below.refl _ _).drew)|(with_reducible exact HK.out _ HB5.out)|(with_reducible exact HK.out _ (HB5.out.alloc HB5.out.size _))|fail) (first|(go_at_call 127;(with_reducible refine(HCL.out _ HB4.out.drew).mono ?_);rintro e4 w4 ⟨v4,rfl,ho4,hb4⟩;obtain⟨pa,pc,rfl⟩:=own_form ho4;have HO:=Lib.hid ho4;have HB5:=Lib.hid ((Below.refl w3.heap.size w3).drew.trans hb4);clear ho4 hb4)|fail)
 have HB6:=Lib.hid (Go.Joins.below_alloc1 w4 (.cells (wkA F U K a cap (.slice pa 1 pc)) 366))
 have HR6:=Lib.hid (row_new w4 366 (wkA F U K a cap (.slice pa 1 pc)))
 generalize w4.alloc (.cells (wkA F U K a cap (.slice pa 1 pc)) 366)=w6 at *
 generalize hZ:wkA F U K a cap (.slice pa 1 pc)=Z at HR6 ⊢
 have HZ:=Lib.hid hZ
 clear hZ
 go_wp2_with fail
 go_ret3
 obtain⟨g1,g2,g3,g4,g5⟩:=HG.out
 have hz5:w3.heap.size≤w4.heap.size:=HB5.out.size
 have hzb:=HB4.out.size
 refine⟨w4.heap.size,pa,pc,gl,cl,rfl,Nat.le_trans hzb hz5,(by rw[HZ.out];exact HR6.out),owns_keep (owns_base HO.out hzb) HB6.out,fun e=>by have:=(HO.out.lt _ e).2;omega,fun e=>by omega,fun g e=>Nat.lt_of_lt_of_le g5 (HO.out.lt _ e).1,g1,?_,g3,g4,HB4.out.trans ((HB5.out.trans (HB6.out.mono hz5)).mono hzb)⟩
 rw[← g2]
 exact(HB5.out.trans (HB6.out.mono hz5)).cell (p:=⟨gl,0,none⟩) g5
end
theorem method_stat (v:Value) (w:World):(method 618 64 v "Stat").run Tryz.prog w=.ok (158,v) w:=by kernel_rfl
theorem method_look (v:Value) (w:World):(method 618 64 v "Look").run Tryz.prog w=.ok (57,v) w:=by kernel_rfl
theorem Row.stS {w:World} {b:Nat}(h:Row w b 33 (#[.int .i64 0,.int .i64 0,.int .i64 0,.int .i64 0,.int .i64 0,.int .i64 0]:Array Value)) (n:Nd):(stR 33 (.pointer (some ⟨b,0,none⟩)) (.agg (stA n))).run Tryz.prog w=.ok () (w.setRow b (stA n)):=h.st0 rfl (by kernel_rfl) (by simp[stA,Value.oneCell'])
theorem stS_new (w:World) (n:Nd):(stR 33 (.pointer (some ⟨w.heap.size,0,none⟩)) (.agg (stA n))).run Tryz.prog (w.alloc (.cells (#[.int .i64 0,.int .i64 0,.int .i64 0,.int .i64 0,.int .i64 0,.int .i64 0]:Array Value) 33))=.ok () (w.alloc (.cells (stA n) 33)):=st0_new w rfl (by kernel_rfl) (by simp[stA,Value.oneCell'])
theorem below_drewN_alloc (w:World) (k:Nat) (o:Obj):Below w.heap.size w ((w.drewN k).alloc o):=(below_drewN (Below.refl w.heap.size w) k).alloc (by have:=(below_drewN (Below.refl w.heap.size w) k).size;exact Nat.le_refl _) o
theorem row_drewN (w:World) (k T:Nat) (c:Array Value):Row ((w.drewN k).alloc (.cells c T)) w.heap.size T c:=by
 have:=row_new (w.drewN k) T c
 simpa using this
section
variable {w:World} {c:FC} {x:FM}
attribute [local go_sem ↓] ld_sta st_sta ld_crd
attribute [local go_sem] stS_new
theorem pmay_is {b:Nat} {U K:Int} {a:Option Addr} {cap g cp:Nat}(h:FSt w c x)(hk:(x.nd 0).k=2)(hw:Row w b 366 (wkA c.F U K a cap (.slice (some ⟨g,0,none⟩) 1 cp)))(h3:w.cell? ⟨g,0,none⟩=some (.int .i64 1))(h1:1≤cp)(h2:cp≤maxLen)
  (hM:∀w,Calls Tryz.prog 167 #[.agg (stA (x.nd 0)),.agg (crA U K a cap),.int .i64 4] w fun e w'=>e=.returned (.tuple #[.bool true,.int .i64 0])∧Below w.heap.size w w') :
  Calls Tryz.prog 289 #[.pointer (some ⟨b,0,none⟩)] w fun e w'=>e=.returned (.int .i64 0)∧Below w.heap.size w w':=by
 have hg:g<w.heap.size:=World.block_lt_of_cell? w _ h3
 have HTOP:=Lib.hid (fun wx (hb:Below w.heap.size w wx)=>ptop_is (hw.keep hb) ((hb.cell (p:=⟨g,0,none⟩) hg).trans h3) h1 h2)
 have HST:=Lib.hid (fun wx (hb:Below w.heap.size w wx)=>statF_is (h.keep hb) (i:=0) (by decide) (n:=1) rfl (by rw[hk];decide))
 have HM:=Lib.hid hM
 have c0:w.cell? ⟨b,0,none⟩=some (.iface 64 (.pointer (some ⟨c.F,0,none⟩))):=hw.cell 0
 have hlt:=hw.lt
 have HW:=Lib.hid hw
 have hms:=method_stat
 have hst0:(stA (x.nd 0))[0]?=some (.int .i64 2):=by show some (Value.int .i64 (x.nd 0).k)=_;rw[hk]
 have HZ2:=Lib.hid (fun k=>(row_new w 33 (#[.int .i64 0,.int .i64 0,.int .i64 0,.int .i64 0,.int .i64 0,.int .i64 0]:Array Value)).keep (below_drewN (Below.refl _ _) k))
 have HZC:=Lib.hid (fun k=>below_drewN (Go.Joins.below_alloc1 w (.cells (#[.int .i64 0,.int .i64 0,.int .i64 0,.int .i64 0,.int .i64 0,.int .i64 0]:Array Value) 33)) k)
 have HZ1:=Lib.hid (fun k=>row_drewN w k 33 (#[.int .i64 0,.int .i64 0,.int .i64 0,.int .i64 0,.int .i64 0,.int .i64 0]:Array Value))
 have HZB:=Lib.hid (fun k=>below_drewN_alloc w k (.cells (#[.int .i64 0,.int .i64 0,.int .i64 0,.int .i64 0,.int .i64 0,.int .i64 0]:Array Value) 33))
 have HD0:=Lib.hid (show Below w.heap.size w w.drew from(Below.refl _ _).drew)
 have HD1:=Lib.hid (show Below w.heap.size w (w.alloc (.cells (#[.int .i64 0,.int .i64 0,.int .i64 0,.int .i64 0,.int .i64 0,.int .i64 0]:Array Value) 33)).drew from((Below.refl _ _).alloc (Nat.le_refl _) _).drew)
 have HBO:Hid (∀w',Below w.heap.size w w'→(Below w.heap.size w w'∧w'.cell? ⟨b,0,none⟩=some (.iface 64 (.pointer (some ⟨c.F,0,none⟩))))):=Lib.hid (fun w' hb=>⟨hb,(hb.cell (p:=⟨b,0,none⟩) hlt).trans c0⟩)
 have HSA:=Lib.hid hst0
 clear h hw h3 h1 h2 hM hk hg hst0
 generalize hnd:x.nd 0=nd at *
 clear hnd
 go_enter Tryz.func289,Tryz.ntmps289
 go_upto_region 1 with fail
 go_cut [3,4] (fun s3 s4 wx=>s4=.int .i64 0∧∃b9,s3=.pointer (some ⟨b9,0,none⟩)∧w.heap.size≤b9∧Below w.heap.size w wx∧Row wx b9 33 (stA nd))
 case first=>
  go_region_held3 (fun w'=>Below w.heap.size w w'∧w'.cell? ⟨b,0,none⟩=some (.iface 64 (.pointer (some ⟨c.F,0,none⟩)))) (first|assumption|(with_reducible exact HBO.out _ HD0.out)|(with_reducible exact HBO.out _ (below_drewN (Below.refl _ _) _))|(with_reducible exact HBO.out _ (below_drewN (Go.Joins.below_alloc1 _ _) _))|(with_reducible exact HBO.out _ (below_drewN (And.left ‹_›) _))|(with_reducible exact HBO.out _ HD1.out)|(with_reducible exact HBO.out _ (below_setRow (And.left ‹_›) (Nat.le_refl _) _))|(with_reducible exact HBO.out _ (Below.alloc (And.left ‹_›) (Below.size (And.left ‹_›)) _))|go_keep)
   (first|(go_at_call 295;refine(HTOP.out _ (‹Below w.heap.size w _∧_›).1).mono ?_;rintro e9 w9 ⟨rfl,k9,rfl⟩;have hS:=HBO.out _ (below_drewN (‹Below w.heap.size w _∧_›).1 k9))|(go_at_call 158;(with_reducible refine(HST.out ((w.alloc (.cells (#[.int .i64 0,.int .i64 0,.int .i64 0,.int .i64 0,.int .i64 0,.int .i64 0]:Array Value) 33)).drewN _) (HZC.out _)).mono ?_);rintro e9 w9 ⟨rfl,hb9⟩;have hst:=((HZ2.out _).keep hb9).stS nd;have hS:=HBO.out _ ((HZC.out _).trans (hb9.mono (HZC.out _).size)))|(go_at_call 158;(with_reducible refine(HST.out ((w.drewN _).alloc (.cells (#[.int .i64 0,.int .i64 0,.int .i64 0,.int .i64 0,.int .i64 0,.int .i64 0]:Array Value) 33)) (HZB.out _)).mono ?_);rintro e9 w9 ⟨rfl,hb9⟩;have hst:=((HZ1.out _).keep hb9).stS nd;have hS:=HBO.out _ ((HZB.out _).trans (hb9.mono (HZB.out _).size)))|(go_at_call 158;refine(HST.out _ (‹Below w.heap.size w _∧_›).1).mono ?_;rintro e9 w9 ⟨rfl,hb9⟩;have hS:=HBO.out _ ((‹Below w.heap.size w _∧_›).1.trans (hb9.mono (‹Below w.heap.size w _∧_›).1.size))))
  all_goals go_wp2
  all_goals go_meet
  all_goals first
   | exact⟨rfl,_,rfl,hS.1.size,hS.1.alloc hS.1.size _,row_new _ _ _⟩
   | exact⟨rfl,_,rfl,Nat.le_refl _,below_setRow hS.1 (Nat.le_refl _) _,((HZ1.out _).keep hb9).setRow _⟩
   | exact⟨rfl,_,rfl,Nat.le_refl _,below_setRow hS.1 (Nat.le_refl _) _,((HZ2.out _).keep hb9).setRow _⟩
 case rest=>
  obtain⟨rfl,b3,rfl,hbl,hbc,hr3⟩:=hcut
  have k0:wc.cell? ⟨b3,0,none⟩=some (.int .i64 2):=(hr3.cell 0).trans HSA.out
  have hwk:=HW.out.keep hbc
  have HBC:=Lib.hid hbc
  have HL:Hid (∀wx,Below wc.heap.size wc wx→((ldR 33 (.pointer (some ⟨b3,0,none⟩))).run Tryz.prog wx=.ok (.agg (stA nd)) wx∧(ldR 56 (.pointer (some ⟨b,2,none⟩))).run Tryz.prog wx=.ok (.agg (crA U K a cap)) wx)):=Lib.hid (fun wx hb=>⟨(hr3.keep hb).ld0 Tryz.underlying33 rfl (by unfold stA;kernel_rfl),(hwk.keep hb).ld (o:=2) (n:=6) (by show 2+6≤10;decide) Tryz.underlying56 rfl (by kernel_rfl)⟩)
  clear hbl hbc hr3 hwk HTOP HST HZ1 HZ2 HZB HZC HD0 HD1 HBO c0
  go_upto_region 6 with fail
  go_region_held3 (fun wx=>(ldR 33 (.pointer (some ⟨b3,0,none⟩))).run Tryz.prog wx=.ok (.agg (stA nd)) wx∧(ldR 56 (.pointer (some ⟨b,2,none⟩))).run Tryz.prog wx=.ok (.agg (crA U K a cap)) wx) (first|(with_reducible exact HL.out _ (Below.refl _ _))|(with_reducible exact HL.out _ (Below.refl _ _).drew)|(with_reducible exact HL.out _ HB9.out)|fail)
     (first|(go_at_call 167;(with_reducible refine(HM.out _).mono ?_);rintro e9 w9 ⟨rfl,hb9⟩;have HB9:=Lib.hid ((Below.refl wc.heap.size wc).drew.trans hb9);clear hb9)|fail)
  go_wp2_with fail
  go_ret
  exact⟨rfl,HBC.out.trans (HB9.out.mono HBC.out.size)⟩
end
theorem own1 {w:World} {B cp:Nat} {sp:Option Addr} {x:Int}(h:w.ownsRow B 3 1 (.slice sp 1 cp) 1 [.int .i64 x]):∃g,sp=some ⟨g,0,none⟩∧B≤g∧g<w.heap.size∧1≤cp∧cp≤maxLen∧w.cell? ⟨g,0,none⟩=some (.int .i64 x):=by
 obtain⟨g,rfl,h1,h2,h3,h4⟩:=own_block h (by decide)
 exact⟨g,rfl,h1,h2,h3,h4,h.cells (g:=g) rfl 0 (.int .i64 x) rfl⟩
section
variable {w:World} {c:FC} {x:FM}
theorem pwalk0_is (w:World) (b gl cl:Nat)(h2:cl≤maxLen):Calls Tryz.prog 239 #[.pointer (some ⟨b,0,none⟩),.slice (some ⟨gl,0,none⟩) 0 cl,.bool true] w fun e w'=>e=.returned (.int .i64 0)∧w=w':=by
 go_enter Tryz.func239,Tryz.ntmps239
 go_wp2_with fail
 refine wp_loop_rounds 1 ?_
 rw[rounds_succ]
 go_wp2_with fail
 go_ret
 exact⟨rfl,rfl⟩
theorem pwalkN_is {b:Nat} {U K:Int} {a:Option Addr} {cap g cp:Nat}(h:FSt w c x)(hk:(x.nd 0).k=2)(hp:(x.nd 0).ps=[])(hs:(x.nd 0).sz=0)(hw:Row w b 366 (wkA c.F U K a cap (.slice (some ⟨g,0,none⟩) 1 cp)))(h3:w.cell? ⟨g,0,none⟩=some (.int .i64 1))(h1:1≤cp)(h2:cp≤maxLen)
  (hM:∀w,Calls Tryz.prog 167 #[.agg (stA (x.nd 0)),.agg (crA U K a cap),.int .i64 4] w fun e w'=>e=.returned (.tuple #[.bool true,.int .i64 0])∧Below w.heap.size w w')
  {gl cl:Nat} (hgl:w.cell? ⟨gl,0,none⟩=some (.string ⟨#[102]⟩)) (k1:1≤cl) (k2:cl≤maxLen) :
  Calls Tryz.prog 239 #[.pointer (some ⟨b,0,none⟩),.slice (some ⟨gl,0,none⟩) 1 cl,.bool true] w fun e w'=>e=.returned (.int .i64 4)∧Below w.heap.size w w':=by
 have hg:g<w.heap.size:=World.block_lt_of_cell? w _ h3
 have HMAY:=Lib.hid (pmay_is h hk hw h3 h1 h2 hM)
 have HTOP:=Lib.hid (fun wx (hb:Below w.heap.size w wx)=>ptop_is (hw.keep hb) ((hb.cell (p:=⟨g,0,none⟩) hg).trans h3) h1 h2)
 have HLK:=Lib.hid (fun wx (hb:Below w.heap.size w wx)=>look0_is (h.keep hb) (i:=0) (by decide) (n:=1) rfl hk hp hs)
 have HC0:=Lib.hid (fun wx (hb:Below w.heap.size w wx)=>(show wx.cell? ⟨b,0,none⟩=some (.iface 64 (.pointer (some ⟨c.F,0,none⟩))) from(hw.keep hb).cell 0))
 have hms:=method_look
 have hcm:(cl:Int)≤9223372036854775807:=by unfold maxLen at k2;omega
 have hc1:(1:Int)≤(cl:Int):=by omega
 clear h hk hp hs hw h3 h1 h2 hM hg k2
 go_enter Tryz.func239,Tryz.ntmps239
 go_wp2_with fail
 refine wp_loop_rounds 1 ?_
 rw[rounds_succ]
 go_upto_region 12 with (go_at_call 289;(with_reducible refine HMAY.out.mono ?_);rintro e1 w1 ⟨rfl,hb1⟩)
 have HB1:=Lib.hid hb1
 generalize (if cl=1 then (some ⟨gl,0,none⟩:Option Addr) else some ⟨gl,1,none⟩)=al at *
 have a0:=HC0.out _ hb1
 have HBO:Hid (∀wx,Below w1.heap.size w1 wx→(Below w1.heap.size w1 wx∧wx.cell? ⟨b,0,none⟩=some (.iface 64 (.pointer (some ⟨c.F,0,none⟩))))):=Lib.hid (fun wx hb=>⟨hb,HC0.out _ (HB1.out.trans (hb.mono HB1.out.size))⟩)
 have HT1:Hid (∀wx,Below w1.heap.size w1 wx→Calls Tryz.prog 295 #[.pointer (some ⟨b,0,none⟩)] wx fun e w'=>e=.returned (.int .i64 1)∧∃k,w'=wx.drewN k):=Lib.hid (fun wx hb=>HTOP.out _ (HB1.out.trans (hb.mono HB1.out.size)))
 have HL1:Hid (∀wx,Below w1.heap.size w1 wx→Calls Tryz.prog 57 #[.pointer (some ⟨c.F,0,none⟩),.int .i64 1,.string ⟨#[102]⟩] wx fun e w'=>e=.returned (.tuple #[.int .i64 0,.int .i64 4])∧Below wx.heap.size wx w'):=Lib.hid (fun wx hb=>HLK.out _ (HB1.out.trans (hb.mono HB1.out.size)))
 clear hb1 HMAY HTOP HLK HC0
 go_region_held3 (fun wx=>wx.cell? ⟨b,0,none⟩=some (.iface 64 (.pointer (some ⟨c.F,0,none⟩)))) (first|(with_reducible exact(HBO.out _ (Below.refl _ _)).2)|(with_reducible exact(HBO.out _ (Below.refl _ _).drew).2)|(with_reducible exact(HBO.out _ (below_drewN (Below.refl _ _) _)).2)|(with_reducible exact(HBO.out _ HB2.out).2)|fail)
   (first|(go_at_call 295;(with_reducible refine(HT1.out _ (Below.refl _ _).drew).mono ?_);rintro e9 w9 ⟨rfl,k9,rfl⟩)|(go_at_call 57;(with_reducible refine(HL1.out _ (below_drewN (Below.refl _ _) _)).mono ?_);rintro e2 w2 ⟨rfl,hb2⟩;have HB2:=Lib.hid ((below_drewN (Below.refl w1.heap.size w1) _).trans hb2);clear hb2))
 go_wp2_with fail
 go_ret
 exact⟨rfl,HB1.out.trans (HB2.out.mono HB1.out.size)⟩
end
theorem apI_push2 {w:World} {B:Nat} {v:Value} {l:List Int}(h:w.ownsRow B 3 1 v l.length (l.map i64V))(hB:B≤w.heap.size) (x:Int)(h64:l.length<100000) :
  ∃v' w',(apI8 #[v,.slice (some ⟨w.heap.size,0,none⟩) 1 1]).run Tryz.prog (w.alloc (.cells #[.int .i64 x] 3))=.ok v' w'∧w'.ownsRow B 3 1 v' (l++[x]).length ((l++[x]).map i64V)∧(w.alloc (.cells #[.int .i64 x] 3)).grownBy w' v.ownBlock∧Below B w w'∧(v'.ownBlock=v.ownBlock∨∃g,w.heap.size≤g∧v'.ownBlock=some g):=by
 have hal:=(Below.refl B w).alloc hB (.cells #[.int .i64 x] 3)
 obtain⟨i0,hi,hz0,hz1,hz2⟩:=info_parts infoI8
 obtain⟨v',w',hr,ho,hg,hq⟩:=run_append_fresh (P:=Tryz.prog) (w.alloc (.cells #[.int .i64 x] 3)) B 54 54 3 i0 (.int .i64 0) 1 8 Tryz.underlying54 hi hz0 hz1 hz2 rfl (by decide) v l.length (l.map i64V) (owns_keep h (Go.Joins.below_alloc1 w _)) ⟨w.heap.size,0,none⟩ 1 1 [.int .i64 x] rfl (cells1_new w (.int .i64 x) 3) (by simp[Value.oneCell']) (by unfold maxLen;omega) (by omega) (Nat.le_trans hB hal.size)
 refine⟨v',w',hr,?_,hg,hal.trans ((Below.refl B _).grown hg (Nat.le_trans hB hal.size) (fun g hgg=>(h.lt g hgg).1)),?_⟩
 ·rw[List.length_append,List.map_append]
  exact ho
 ·rcases hq with hq|⟨g,h1,h2⟩
  ·exact .inl hq
  ·exact .inr ⟨g,Nat.le_trans (by simp) h1,h2⟩
section
variable {w:World} {c:FC} {x:FM}
attribute [local go_sem ↓] ld_sta st_sta apI8_eq
attribute [local go_sem] stS_new
theorem pwalkF_is {b:Nat} {U K:Int} {a sp:Option Addr} {cap cp B:Nat}(h:FSt w c x)(hk:(x.nd 0).k=2) {p:Nat}(hp:(x.nd 0).ps=[(p:Int)])(hp0:p≠0)(hp1:p<256)(hs:(x.nd 0).sz=16)(hf:(fsec x p).take 16=entL)(hk1:(x.nd 1).k=1)
  (hw:Row w b 366 (wkA c.F U K a cap (.slice sp 1 cp))) (ho:w.ownsRow B 3 1 (.slice sp 1 cp) 1 [.int .i64 1]) (hb0:B≤b) (hne:(Value.slice sp 1 cp).ownBlock≠some b)
  (hM:∀w,Calls Tryz.prog 167 #[.agg (stA (x.nd 0)),.agg (crA U K a cap),.int .i64 4] w fun e w'=>e=.returned (.tuple #[.bool true,.int .i64 0])∧Below w.heap.size w w')
  {gl cl:Nat} (hgl:w.cell? ⟨gl,0,none⟩=some (.string ⟨#[102]⟩)) (k1:1≤cl) (k2:cl≤maxLen) :
  Calls Tryz.prog 239 #[.pointer (some ⟨b,0,none⟩),.slice (some ⟨gl,0,none⟩) 1 cl,.bool true] w fun e w'=>e=.returned (.int .i64 0)∧∃g2 c2,Row w' b 366 (wkA c.F U K a cap (.slice g2 2 c2))∧w'.ownsRow B 3 1 (.slice g2 2 c2) 2 [.int .i64 1,.int .i64 2]∧Below B w w':=by
 obtain⟨g,rfl,hgB,hg,h1,h2,h3⟩:=own1 ho
 have hgb:g≠b:=fun e=>hne (by rw[e];rfl)
 have HMAY:=Lib.hid (pmay_is h hk hw h3 h1 h2 hM)
 have HTOP:=Lib.hid (fun wx (hb:Below w.heap.size w wx)=>ptop_is (hw.keep hb) ((hb.cell (p:=⟨g,0,none⟩) hg).trans h3) h1 h2)
 have HLK:=Lib.hid (fun wx (hb:Below w.heap.size w wx)=>look1_is (h.keep hb) (i:=0) (by decide) (n:=1) rfl hk hp hp0 hp1 hs hf)
 have HST:=Lib.hid (fun wx (hb:Below w.heap.size w wx)=>statF_is (h.keep hb) (i:=1) (by decide) (n:=2) rfl (by rw[hk1];decide))
 have HC0:=Lib.hid (fun wx (hb:Below w.heap.size w wx)=>(show wx.cell? ⟨b,0,none⟩=some (.iface 64 (.pointer (some ⟨c.F,0,none⟩))) from(hw.keep hb).cell 0))
 have hms:=method_look
 have hmt:=method_stat
 have hcm:(cl:Int)≤9223372036854775807:=by unfold maxLen at k2;omega
 have hc1:(1:Int)≤(cl:Int):=by omega
 have HW:=Lib.hid (And.intro hw (And.intro ho (And.intro hb0 hgb)))
 have HSA:Hid ((stA (x.nd 1))[0]?=some (.int .i64 1)):=Lib.hid (by show some (Value.int .i64 (x.nd 1).k)=_;rw[hk1])
 have HBB:Hid (B≤w.heap.size):=Lib.hid (by omega)
 clear h hk hp hs hw h3 h1 h2 hM hg k2 hp0 hp1 hf hk1 ho hb0 hne hgB hgb
 generalize x.nd 1=nd at *
 go_enter Tryz.func239,Tryz.ntmps239
 go_wp2_with fail
 refine wp_loop_rounds 2 ?_
 rw[rounds_succ]
 go_upto_region 12 with (go_at_call 289;(with_reducible refine HMAY.out.mono ?_);rintro e1 w1 ⟨rfl,hb1⟩)
 have HB1:=Lib.hid hb1
 generalize (if cl=1 then (some ⟨gl,0,none⟩:Option Addr) else some ⟨gl,1,none⟩)=al at *
 have a0:=HC0.out _ hb1
 have HBO:Hid (∀wx,Below w1.heap.size w1 wx→(Below w1.heap.size w1 wx∧wx.cell? ⟨b,0,none⟩=some (.iface 64 (.pointer (some ⟨c.F,0,none⟩))))):=Lib.hid (fun wx hb=>⟨hb,HC0.out _ (HB1.out.trans (hb.mono HB1.out.size))⟩)
 have HT1:Hid (∀wx,Below w1.heap.size w1 wx→Calls Tryz.prog 295 #[.pointer (some ⟨b,0,none⟩)] wx fun e w'=>e=.returned (.int .i64 1)∧∃k,w'=wx.drewN k):=Lib.hid (fun wx hb=>HTOP.out _ (HB1.out.trans (hb.mono HB1.out.size)))
 have HL1:Hid (∀wx,Below w1.heap.size w1 wx→Calls Tryz.prog 57 #[.pointer (some ⟨c.F,0,none⟩),.int .i64 1,.string ⟨#[102]⟩] wx fun e w'=>e=.returned (.tuple #[.int .i64 2,.int .i64 0])∧Below wx.heap.size wx w'):=Lib.hid (fun wx hb=>HLK.out _ (HB1.out.trans (hb.mono HB1.out.size)))
 clear hb1 HMAY HTOP HLK
 go_region_held3 (fun wx=>wx.cell? ⟨b,0,none⟩=some (.iface 64 (.pointer (some ⟨c.F,0,none⟩)))) (first|(with_reducible exact(HBO.out _ (Below.refl _ _)).2)|(with_reducible exact(HBO.out _ (Below.refl _ _).drew).2)|(with_reducible exact(HBO.out _ (below_drewN (Below.refl _ _) _)).2)|(with_reducible exact(HBO.out _ HB2.out).2)|fail)
   (first|(go_at_call 295;(with_reducible refine(HT1.out _ (Below.refl _ _).drew).mono ?_);rintro e9 w9 ⟨rfl,k9,rfl⟩)|(go_at_call 57;(with_reducible refine(HL1.out _ (below_drewN (Below.refl _ _) _)).mono ?_);rintro e2 w2 ⟨rfl,hb2⟩;have HB2:=Lib.hid ((below_drewN (Below.refl w1.heap.size w1) _).trans hb2);clear hb2))
 have HBt:=Lib.hid (HB1.out.trans (HB2.out.mono HB1.out.size))
 have a2:=HC0.out _ HBt.out
 have HS2:=Lib.hid (HST.out _ HBt.out)
 clear a0 hms HBO HT1 HL1 HST HC0 HB1 HB2
 go_upto_region 18 with (go_at_call 158;(with_reducible refine HS2.out.mono ?_);rintro e3 w3 ⟨rfl,hb3⟩)
 have hb4:=hb3.alloc hb3.size (.cells (stA nd) 33)
 have q0:(w3.alloc (.cells (stA nd) 33)).cell? ⟨w3.heap.size,0,none⟩=some (.int .i64 1):=((row_new w3 33 (stA nd)).cell 0).trans HSA.out
 generalize w3.alloc (.cells (stA nd) 33)=w4 at *
 have HB4:=Lib.hid (HBt.out.trans (hb4.mono HBt.out.size))
 have a4:w4.cell? ⟨b,1,none⟩=some (.slice none 0 0):=(HW.out.1.keep HB4.out).cell 1
 have HD:=Lib.hid (mdowns_is 2 (by decide) (by decide) w4)
 clear hb3 hb4 a2 hmt HS2 HBt HSA
 go_upto_region 26 with (go_at_call 297;(with_reducible refine HD.out.mono ?_);rintro e5 w5 ⟨rfl,hb5⟩)
 have HB5:=Lib.hid (HB4.out.trans (hb5.mono HB4.out.size))
 obtain⟨hw,ho,hb0,hgb⟩:=HW.out
 have hw5:=hw.keep HB5.out
 obtain⟨v6,w6,hap,ho6,hg6,hb6,hq6⟩:=apI_push2 (l:=[1]) (owns_keep ho HB5.out) (Nat.le_trans HBB.out HB5.out.size) 2 (by decide)
 obtain⟨g6,c6,rfl⟩:=own_form ho6
 have hap:(apI8 #[.slice (some ⟨g,0,none⟩) 1 cp,.slice (some ⟨w5.heap.size,0,none⟩) 1 1]).run Tryz.prog (w5.alloc (.cells #[.int .i64 2] 3))=.ok (.slice g6 2 c6) w6:=hap
 have b8:w5.cell? ⟨b,8,none⟩=some (.slice (some ⟨g,0,none⟩) 1 cp):=hw5.cell 8
 have hw6:Row w6 b 366 (wkA c.F U K a cap (.slice (some ⟨g,0,none⟩) 1 cp)):=(hw5.alloc _).kept hg6 (fun e=>hgb (by injection e.symm))
 have z8:=hw6.fz 8
 have y8:w6.cell? ⟨b,8,none⟩=some (.slice (some ⟨g,0,none⟩) 1 cp):=hw6.cell 8
 have HN6:Hid ((Value.slice g6 2 c6).ownBlock≠some b):=Lib.hid (fun e=>by
    rcases hq6 with q|⟨g',q1,q2⟩
    · have q:some b=some g:=e.symm.trans q
      exact hgb (by injection q with q;exact q.symm)
    · have:=hw5.lt
      have q:some b=some g':=e.symm.trans q2
      injection q with q
      omega)
 have H6:=Lib.hid (And.intro hw6 (And.intro ho6 (And.intro hb0 ((HB5.out.mono HBB.out).trans hb6))))
 clear hq6 hb5 a4 q0 HD HB4 hw ho hb0 hgb hw5 ho6 hg6 hb6 hw6
 go_wp2_with fail
 rw[rounds_succ]
 go_wp2_with fail
 go_ret
 obtain⟨r6,o6,b6,u6⟩:=H6.out
 refine⟨rfl,g6,c6,?_,?_,?_⟩
 ·rw[r6.setCell];exact r6.setRow _
 ·exact owns_set o6 HN6.out
 ·exact u6.trans ((Upd.set (S:=fun j=>j=b) w6 (b:=b) (i:=8) (.slice g6 2 c6) rfl).toBelow (Nat.le_trans HBB.out u6.size) (fun k hk e=>by have e:k=b:=e;omega))
end
end Go.Proofs.YtfkepfncgdlgoaaGreatDoor
