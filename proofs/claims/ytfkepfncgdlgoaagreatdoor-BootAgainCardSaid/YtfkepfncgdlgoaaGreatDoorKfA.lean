/- The walk of kernel.Start, and all that the file system is then. Printed by gen_start2.py. A kernel that has begun: the state of its file system. The kernel with its file system as one state; the walks of kernel.may and kernel.last. -/
import Derived.Test.YtfkepfncgdlgoaaGreatDoorMnt2
import Derived.Test.YtfkepfncgdlgoaaGreatDoorPathA
import Derived.Test.YtfkepfncgdlgoaaGreatDoorFsA
namespace Go.Proofs.YtfkepfncgdlgoaaGreatDoor
open Go.RowKit Go.Maps
set_option linter.unusedVariables false
set_option linter.unusedSimpArgs false
set_option maxRecDepth 100000
set_option maxHeartbeats 1000000
attribute [local go_sem ↓] bd_ker
section
variable {w:World} {D sb nb m:Nat} {wv:Value} {s f:List Int}
theorem start2_is (h:Dk w D sb nb wv m 256 s f)(hf:Fmt f):Calls Tryz.prog 12 #[.int .i64 1,.int .i64 64,.int .i64 64,.pointer (some ⟨D,0,none⟩)] w fun e w'=>∃K P Wh Fi Pr R M so sp c,e=.returned (.tuple #[.pointer (some ⟨K,0,none⟩),.int .i64 0])∧KS w' w.heap.size K P Wh Fi Pr R M so sp c∧(∃B0 F L a,c 2=.pointer (some ⟨F,0,none⟩)∧FSy w' B0 F D L a∧M<B0∧F<sp)∧Below w.heap.size w w':=by
 have HD:=Lib.hid h
 have HF:=Lib.hid hf
 have hbd:=bd_ker_run
 have HP:=Lib.hid (pnew_is w)
 have HWN:=Lib.hid (wnew_is (w.alloc (.cells pipA 155)))
 have HON:=Lib.hid (OpenLaw.new_is ((w.alloc (.cells pipA 155)).alloc (.cells #[.int .u32 0,.slice none 0 0] 158)))
 clear h hf
 go_enter Tryz.func12,Tryz.ntmps12
 go_upto_region 2 with (first|(go_at_call 25;refine HP.out.mono ?_;rintro e1 w1 ⟨rfl,rfl⟩)|(go_at_call 26;refine HWN.out.mono ?_;rintro e2 w2 ⟨rfl,rfl⟩)|(go_at_call 27;refine HON.out.mono ?_;rintro e3 w3 ⟨rfl,hb3,hz3,ho3⟩;have HPN:=Lib.hid (ProcLaw.new_is w3))|(go_at_call 28;refine HPN.out.mono ?_;rintro e4 w4 ⟨rfl,hb4,hp4⟩))
 have hz2:((w.alloc (.cells pipA 155)).alloc (.cells #[.int .u32 0,.slice none 0 0] 158)).heap.size=w.heap.size+1+1:=by simp
 have hz1:(w.alloc (.cells pipA 155)).heap.size=w.heap.size+1:=by simp
 have hpi:=(((row_new w 155 pipA).alloc (.cells #[.int .u32 0,.slice none 0 0] 158)).keep hb3).keep hb4
 have hwh:=((row_new (w.alloc (.cells pipA 155)) 158 #[.int .u32 0,.slice none 0 0]).keep hb3).keep hb4
 rw[hz1] at hwh
 have hfi:=ho3.keep hb4
 rw[hz2] at hz3 hfi
 rw[hz3] at hp4
 have hb02:Below w.heap.size w ((w.alloc (.cells pipA 155)).alloc (.cells #[.int .u32 0,.slice none 0 0] 158)):=((Below.refl _ _).alloc (Nat.le_refl _) _).alloc (by simp) _
 have hb04:=hb02.trans ((hb3.trans (hb4.mono hb3.size)).mono hb02.size)
 have hal:=Go.Joins.below_alloc1 w4 (.cells (((((Tryz.zeroCells72.setIfInBounds 0 (.int .i64 1)).setIfInBounds 3 (.pointer (some ⟨w.heap.size,0,none⟩))).setIfInBounds 5 (.pointer (some ⟨w.heap.size+1,0,none⟩))).setIfInBounds 6 (.pointer (some ⟨w.heap.size+1+1,0,none⟩))).setIfInBounds 7 (.pointer (some ⟨w.heap.size+1+1+1,0,none⟩))) 72)
 have HK:Hid (KR (w4.alloc (.cells (((((Tryz.zeroCells72.setIfInBounds 0 (.int .i64 1)).setIfInBounds 3 (.pointer (some ⟨w.heap.size,0,none⟩))).setIfInBounds 5 (.pointer (some ⟨w.heap.size+1,0,none⟩))).setIfInBounds 6 (.pointer (some ⟨w.heap.size+1+1,0,none⟩))).setIfInBounds 7 (.pointer (some ⟨w.heap.size+1+1+1,0,none⟩))) 72)) w4.heap.size (upV (upV (upV (upV (upV kz 0 (.int .i64 1)) 3 (.pointer (some ⟨w.heap.size,0,none⟩))) 5 (.pointer (some ⟨w.heap.size+1,0,none⟩))) 6 (.pointer (some ⟨w.heap.size+1+1,0,none⟩))) 7 (.pointer (some ⟨w.heap.size+1+1+1,0,none⟩)))):=Lib.hid (by
    unfold KR
    rw[← ker0]
    exact row_new w4 _ _)
 have HKP:Hid (KP (w4.alloc (.cells (((((Tryz.zeroCells72.setIfInBounds 0 (.int .i64 1)).setIfInBounds 3 (.pointer (some ⟨w.heap.size,0,none⟩))).setIfInBounds 5 (.pointer (some ⟨w.heap.size+1,0,none⟩))).setIfInBounds 6 (.pointer (some ⟨w.heap.size+1+1,0,none⟩))).setIfInBounds 7 (.pointer (some ⟨w.heap.size+1+1+1,0,none⟩))) 72)) w.heap.size w.heap.size (w.heap.size+1) (w.heap.size+1+1) (w.heap.size+1+1+1) w4.heap.size):=Lib.hid ⟨hpi.keep hal,hwh.keep hal,hfi.keep hal,hp4.keep hal,by have:=hp4.lt;omega⟩
 have HB5:=Lib.hid (hb04.trans (hal.mono hb04.size))
 have HKK:Hid (w.heap.size≤w4.heap.size):=Lib.hid hb04.size
 clear hz1 hz2 hz3 hpi hwh hfi hb02 hb04 hal hb3 hb4 ho3 hp4 HP HWN HON HPN hbd
 generalize w4.alloc (.cells (((((Tryz.zeroCells72.setIfInBounds 0 (.int .i64 1)).setIfInBounds 3 (.pointer (some ⟨w.heap.size,0,none⟩))).setIfInBounds 5 (.pointer (some ⟨w.heap.size+1,0,none⟩))).setIfInBounds 6 (.pointer (some ⟨w.heap.size+1+1,0,none⟩))).setIfInBounds 7 (.pointer (some ⟨w.heap.size+1+1+1,0,none⟩))) 72)=w5 at *
 obtain⟨K,hK⟩:∃K,K=w4.heap.size:=⟨_,rfl⟩
 rw[← hK] at HK HKP HKK ⊢
 clear hK
 have HBK:Hid (Below K w5 w5):=Lib.hid (Below.refl _ _)
 have HKW:Hid (K<w5.heap.size):=Lib.hid HK.out.lt
 obtain⟨c0,hc0⟩:∃c0,c0=(upV (upV (upV (upV (upV kz 0 (.int .i64 1)) 3 (.pointer (some ⟨w.heap.size,0,none⟩))) 5 (.pointer (some ⟨w.heap.size+1,0,none⟩))) 6 (.pointer (some ⟨w.heap.size+1+1,0,none⟩))) 7 (.pointer (some ⟨w.heap.size+1+1+1,0,none⟩))):=⟨_,rfl⟩
 rw[← hc0] at HK
 have HC0:Hid (c0 1=.pointer none∧c0 2=.pointer none∧c0 3=.pointer (some ⟨w.heap.size,0,none⟩)∧c0 4=.pointer none∧c0 5=.pointer (some ⟨w.heap.size+1,0,none⟩)∧c0 6=.pointer (some ⟨w.heap.size+1+1,0,none⟩)∧c0 7=.pointer (some ⟨w.heap.size+1+1+1,0,none⟩)∧c0 46=.int .i64 0∧c0 56=.int .i64 0∧c0 57=.int .i64 0∧c0 58=.int .i64 0∧c0 59=.slice none 0 0∧c0 60=.int .i64 0∧c0 61=.int .i64 0∧c0 62=.int .i64 0∧c0 63=.slice none 0 0∧c0 83=.bool false):=Lib.hid (by
    rw[hc0]
    exact⟨rfl,rfl,rfl,rfl,rfl,rfl,rfl,rfl,rfl,rfl,rfl,rfl,rfl,rfl,rfl,rfl,rfl⟩)
 have HC1:Hid (∀j,8≤j→c0 j=kz j):=Lib.hid (fun j hj=>by
    rw[hc0]
    unfold upV
    rw[if_neg (by omega),if_neg (by omega),if_neg (by omega),if_neg (by omega),if_neg (by omega)])
 clear hc0
 have HSN:=Lib.hid (snew1_is w5)
 have kk:∀(w':World) (c:Nat→Value) (i:Nat) (v:Value),KR w' K c→i<655→c i=v→w'.cell? ⟨K,i,none⟩=some v:=fun w' c i v h hi e=>by rw[h.cell hi,e]
 have HKKC:=Lib.hid kk
 clear kk
 go_upto_region 4 with (go_at_call 29;refine HSN.out.mono ?_;rintro e6 w6 ⟨rfl,hb6,hz6,hr6⟩;have k6:=HK.out.keep hb6;have q6:=HKKC.out w6 _ 4 _ k6 (by decide) HC0.out.2.2.2.1;have f6:=k6.fz 4)
 have HU7:=Lib.hid (Upd.set w6 (b:=K) (i:=4) (.pointer (some ⟨w5.heap.size,0,none⟩)) (S:=fun k=>k=K) rfl)
 have HK7:=Lib.hid (k6.set (i:=4) (by decide) (.pointer (some ⟨w5.heap.size,0,none⟩)))
 have HR7:=Lib.hid (hr6.upd HU7.out (by have:=HKW.out;omega) (fun _ e=>by cases e))
 have HB56:=Lib.hid ((hb6.mono (Nat.le_of_lt HKW.out)).trans (HU7.out.toBelow (Nat.le_trans (Nat.le_of_lt HKW.out) hb6.size) (by omega)))
 have HB7:=Lib.hid (HB5.out.trans (HB56.out.mono HKK.out))
 have HS7:Hid (w6.heap.size=(w6.setCell ⟨K,4,none⟩ (.pointer (some ⟨w5.heap.size,0,none⟩))).heap.size):=Lib.hid (by simp[World.setCell])
 have HZ6:=Lib.hid hz6
 clear k6 q6 f6 hz6 hr6 hb6 HSN HU7
 generalize w6.setCell ⟨K,4,none⟩ (.pointer (some ⟨w5.heap.size,0,none⟩))=w7 at *
 have HSP:=Lib.hid (spnew_is w7)
 have hal:Below w7.heap.size w7 ((w7.alloc (.map #[] 0)).alloc (.cells #[.int .i64 64,.int .i64 64,.int .i64 0,.slice none 0 0,.map (some w7.heap.size)] 179)):=((Below.refl _ _).alloc (Nat.le_refl _) _).alloc (by simp) _
 have k8:=HK7.out.keep hal
 have q8:=HKKC.out _ _ 1 _ k8 (by decide) HC0.out.1
 have f8:=k8.fz 1
 have hom:OMap ((w7.alloc (.map #[] 0)).alloc (.cells #[.int .i64 64,.int .i64 64,.int .i64 0,.slice none 0 0,.map (some w7.heap.size)] 179)) w7.heap.size 0 (fun _=>none):=(OMap.made w7).kept (Below.grownN (Go.Joins.below_alloc1 _ _) none) (by simp)
 have hmr:=row_new (w7.alloc (.map #[] 0)) 179 #[.int .i64 64,.int .i64 64,.int .i64 0,.slice none 0 0,.map (some w7.heap.size)]
 rw[size_alloc1] at hmr
 have hr8:=HR7.out.keep hal
 have hs8:((w7.alloc (.map #[] 0)).alloc (.cells #[.int .i64 64,.int .i64 64,.int .i64 0,.slice none 0 0,.map (some w7.heap.size)] 179)).heap.size=w7.heap.size+1+1:=by simp
 have HKLT:Hid (K<w7.heap.size):=Lib.hid HK7.out.lt
 have HRLT:Hid (w5.heap.size<w7.heap.size):=Lib.hid HR7.out.lt
 have HU9:=Lib.hid (Upd.set ((w7.alloc (.map #[] 0)).alloc (.cells #[.int .i64 64,.int .i64 64,.int .i64 0,.slice none 0 0,.map (some w7.heap.size)] 179)) (b:=K) (i:=1) (.pointer (some ⟨w7.heap.size+1,0,none⟩)) (S:=fun k=>k=K) rfl)
 have HK9:=Lib.hid (k8.set (i:=1) (by decide) (.pointer (some ⟨w7.heap.size+1,0,none⟩)))
 have HR9:=Lib.hid (hr8.upd HU9.out (by have:=HKW.out;omega) (fun _ e=>by cases e))
 have HM9:=Lib.hid (hmr.upd HU9.out (by have:=HKLT.out;omega))
 have HO9:=Lib.hid (hom.kept HU9.out.grownK (by have:=HKLT.out;intro e;injection e with e;omega))
 have HB79:=Lib.hid ((hal.mono (Nat.le_of_lt HKLT.out)).trans (HU9.out.toBelow (by rw[hs8];have:=HKLT.out;omega) (by omega)))
 have HB9:=Lib.hid (HB7.out.trans (HB79.out.mono HKK.out))
 have HB59:=Lib.hid (HB56.out.trans HB79.out)
 have HZM:Hid (w7.heap.size+1<((((w7.alloc (.map #[] 0)).alloc (.cells #[.int .i64 64,.int .i64 64,.int .i64 0,.slice none 0 0,.map (some w7.heap.size)] 179)).setCell ⟨K,1,none⟩ (.pointer (some ⟨w7.heap.size+1,0,none⟩)))).heap.size):=Lib.hid HM9.out.lt
 clear hom hmr hr8 k8 hal HU9 HK7 HR7 HB7 HB56 HB79
 go_upto_region 7 with (go_at_call 30;refine HSP.out.mono ?_;rintro e8 w8 ⟨rfl,rfl⟩)
 clear q8 f8 hs8 HSP
 generalize ((w7.alloc (.map #[] 0)).alloc (.cells #[.int .i64 64,.int .i64 64,.int .i64 0,.slice none 0 0,.map (some w7.heap.size)] 179)).setCell ⟨K,1,none⟩ (.pointer (some ⟨w7.heap.size+1,0,none⟩))=w9 at *
 have HMT:=Lib.hid (mount2_is (HD.out.keep HB9.out) HF.out)
 go_upto_region 10 with (go_at_call 22;refine HMT.out.mono ?_;rintro e10 w10 ⟨F,L,a,rfl,hfs,hb10⟩;have k10:=HK9.out.keep hb10;have q10:=HKKC.out w10 _ 2 _ k10 (by decide) HC0.out.2.1;have f10:=k10.fz 2)
 have HU11:=Lib.hid (Upd.set w10 (b:=K) (i:=2) (.pointer (some ⟨F,0,none⟩)) (S:=fun k=>k=K) rfl)
 have HKL9:Hid (K<w9.heap.size):=Lib.hid HK9.out.lt
 have HK11:=Lib.hid (k10.set (i:=2) (by decide) (.pointer (some ⟨F,0,none⟩)))
 have HR11:=Lib.hid ((HR9.out.keep hb10).upd HU11.out (by have:=HKW.out;omega) (fun _ e=>by cases e))
 have HM11:=Lib.hid ((HM9.out.keep hb10).upd HU11.out (by have:=HKLT.out;omega))
 have HO11:=Lib.hid ((HO9.out.kept (Below.grownN hb10 none) (by simp)).kept HU11.out.grownK (by have:=HKLT.out;intro e;injection e with e;omega))
 have HB911:=Lib.hid ((hb10.mono (Nat.le_of_lt HKL9.out)).trans (HU11.out.toBelow (Nat.le_trans (Nat.le_of_lt HKL9.out) hb10.size) (by omega)))
 have HB11:=Lib.hid (HB9.out.trans (HB911.out.mono HKK.out))
 have HB511:=Lib.hid (HB59.out.trans HB911.out)
 have HF11:=Lib.hid (hfs.updB HU11.out (fun k hk=>by have:=HKL9.out;omega))
 clear k10 q10 f10 hb10 hfs HMT HU11 HK9 HR9 HM9 HO9 HB9 HB59 HB911
 generalize w10.setCell ⟨K,2,none⟩ (.pointer (some ⟨F,0,none⟩))=w11 at *
 have HFL:Hid (F<w11.heap.size):=Lib.hid (by obtain⟨p,c,b,h1,-⟩:=HF11.out.x;exact(Array.getElem?_eq_some_iff.1 h1).1)
 have HSM:Hid (w7.heap.size+1<w11.heap.size):=Lib.hid HM11.out.lt
 have m4:w11.cell? ⟨w7.heap.size+1,4,none⟩=some (.map (some w7.heap.size)):=by rw[HM11.out.cell];rfl
 have q11:=HKKC.out w11 _ 1 _ HK11.out (by decide) rfl
 have HMK:=Lib.hid (spmake_is m4 HO11.out)
 clear m4
 go_upto_region 14 with (go_at_call 31;refine HMK.out.mono ?_;rintro e12 w12 ⟨rfl,ho12,hi12,hg12⟩;have k12:=HK11.out.kept hg12 (by have:=HKLT.out;intro e;injection e with e;omega);have q12:=HKKC.out w12 _ 46 _ k12 (by decide) HC0.out.2.2.2.2.2.2.2.1;have f12:=k12.fz 46)
 have HU13:=Lib.hid (Upd.set w12 (b:=K) (i:=46) (.int .i64 1) (S:=fun k=>k=K) rfl)
 have HKL11:Hid (K<w11.heap.size):=Lib.hid HK11.out.lt
 have HK13:=Lib.hid (k12.set (i:=46) (by decide) (.int .i64 1))
 have HR13:=Lib.hid ((HR11.out.upd (Upd.grown hg12 (S:=fun k=>k=w7.heap.size) rfl) (by have:=HRLT.out;omega) (fun _ e=>by cases e)).upd HU13.out (by have:=HKW.out;omega) (fun _ e=>by cases e))
 have HM13:=Lib.hid ((HM11.out.kept hg12 (by intro e;injection e with e;omega)).upd HU13.out (by have:=HKLT.out;omega))
 have HO13:=Lib.hid (ho12.kept HU13.out.grownK (by have:=HKLT.out;intro e;injection e with e;omega))
 have HI13:=Lib.hid (hi12.kept HU13.out.grownK (by have:=HKL11.out;intro e;injection e with e;omega))
 have HB1113:=Lib.hid (((Below.refl K w11).grown hg12 (Nat.le_of_lt HKL11.out) (fun k hk=>by injection hk with hk;have:=HKLT.out;omega)).trans (HU13.out.toBelow (Nat.le_trans (Nat.le_of_lt HKL11.out) hg12.size) (by omega)))
 have HB13:=Lib.hid (HB11.out.trans (HB1113.out.mono HKK.out))
 have HB513:=Lib.hid (HB511.out.trans HB1113.out)
 have HF13:=Lib.hid ((HF11.out.updB (Upd.grown hg12 (S:=fun k=>k=w7.heap.size) rfl) (fun k hk=>by have:=HZM.out;omega)).updB HU13.out (fun k hk=>by have:=HKL9.out;omega))
 clear k12 q12 f12 ho12 hi12 hg12 HMK HU13 HK11 HR11 HM11 HO11 HB11 HB511 HB1113 q11 HF11
 generalize w12.setCell ⟨K,46,none⟩ (.int .i64 1)=w13 at *
 have HC2:=Lib.hid (HC0.out.2.2.2.2.2.2.2.2)
 have q56:=HKKC.out w13 _ 56 _ HK13.out (by decide) HC2.out.1
 have q57:=HKKC.out w13 _ 57 _ HK13.out (by decide) HC2.out.2.1
 have q58:=HKKC.out w13 _ 58 _ HK13.out (by decide) HC2.out.2.2.1
 have q59:=HKKC.out w13 _ 59 _ HK13.out (by decide) HC2.out.2.2.2.1
 have q60:=HKKC.out w13 _ 60 _ HK13.out (by decide) HC2.out.2.2.2.2.1
 have q61:=HKKC.out w13 _ 61 _ HK13.out (by decide) HC2.out.2.2.2.2.2.1
 have q62:=HKKC.out w13 _ 62 _ HK13.out (by decide) HC2.out.2.2.2.2.2.2.1
 have q63:=HKKC.out w13 _ 63 _ HK13.out (by decide) HC2.out.2.2.2.2.2.2.2.1
 have f56:=HK13.out.fz 56
 have f57:=HK13.out.fz 57
 have f58:=HK13.out.fz 58
 have f59:=HK13.out.fz 59
 have f60:=HK13.out.fz 60
 have f61:=HK13.out.fz 61
 have f62:=HK13.out.fz 62
 have f63:=HK13.out.fz 63
 have hkl:K<w13.heap.size:=HK13.out.lt
 have hkne:¬K=w13.heap.size:=by omega
 go_upto_region 19 with fail
 have HU14:Hid (Upd (fun k=>k=K) w13 ((((((((w13.setCell ⟨K,56,none⟩ (.int .i64 1)).setCell ⟨K,57,none⟩ (.int .i64 0)).setCell ⟨K,58,none⟩ (.int .i64 0)).setCell ⟨K,59,none⟩ (.slice none 0 0)).setCell ⟨K,60,none⟩ (.int .i64 127)).setCell ⟨K,61,none⟩ (.int .i64 0)).setCell ⟨K,62,none⟩ (.int .i64 0)).setCell ⟨K,63,none⟩ (.slice (some ⟨w13.heap.size,0,none⟩) 1 1))):=Lib.hid ((((((((Upd.set w13 (b:=K) (i:=56) (S:=fun k=>k=K) (.int .i64 1) rfl).trans (Upd.set (w13.setCell ⟨K,56,none⟩ (.int .i64 1)) (b:=K) (i:=57) (S:=fun k=>k=K) (.int .i64 0) rfl)).trans (Upd.set ((w13.setCell ⟨K,56,none⟩ (.int .i64 1)).setCell ⟨K,57,none⟩ (.int .i64 0)) (b:=K) (i:=58) (S:=fun k=>k=K) (.int .i64 0) rfl)).trans (Upd.set (((w13.setCell ⟨K,56,none⟩ (.int .i64 1)).setCell ⟨K,57,none⟩ (.int .i64 0)).setCell ⟨K,58,none⟩ (.int .i64 0)) (b:=K) (i:=59) (S:=fun k=>k=K) (.slice none 0 0) rfl)).trans (Upd.set ((((w13.setCell ⟨K,56,none⟩ (.int .i64 1)).setCell ⟨K,57,none⟩ (.int .i64 0)).setCell ⟨K,58,none⟩ (.int .i64 0)).setCell ⟨K,59,none⟩ (.slice none 0 0)) (b:=K) (i:=60) (S:=fun k=>k=K) (.int .i64 127) rfl)).trans (Upd.set (((((w13.setCell ⟨K,56,none⟩ (.int .i64 1)).setCell ⟨K,57,none⟩ (.int .i64 0)).setCell ⟨K,58,none⟩ (.int .i64 0)).setCell ⟨K,59,none⟩ (.slice none 0 0)).setCell ⟨K,60,none⟩ (.int .i64 127)) (b:=K) (i:=61) (S:=fun k=>k=K) (.int .i64 0) rfl)).trans (Upd.set ((((((w13.setCell ⟨K,56,none⟩ (.int .i64 1)).setCell ⟨K,57,none⟩ (.int .i64 0)).setCell ⟨K,58,none⟩ (.int .i64 0)).setCell ⟨K,59,none⟩ (.slice none 0 0)).setCell ⟨K,60,none⟩ (.int .i64 127)).setCell ⟨K,61,none⟩ (.int .i64 0)) (b:=K) (i:=62) (S:=fun k=>k=K) (.int .i64 0) rfl)).trans (Upd.set (((((((w13.setCell ⟨K,56,none⟩ (.int .i64 1)).setCell ⟨K,57,none⟩ (.int .i64 0)).setCell ⟨K,58,none⟩ (.int .i64 0)).setCell ⟨K,59,none⟩ (.slice none 0 0)).setCell ⟨K,60,none⟩ (.int .i64 127)).setCell ⟨K,61,none⟩ (.int .i64 0)).setCell ⟨K,62,none⟩ (.int .i64 0)) (b:=K) (i:=63) (S:=fun k=>k=K) (.slice (some ⟨w13.heap.size,0,none⟩) 1 1) rfl))
 have HK14:=Lib.hid ((((((((HK13.out.set (i:=56) (by decide) (.int .i64 1)).set (i:=57) (by decide) (.int .i64 0)).set (i:=58) (by decide) (.int .i64 0)).set (i:=59) (by decide) (.slice none 0 0)).set (i:=60) (by decide) (.int .i64 127)).set (i:=61) (by decide) (.int .i64 0)).set (i:=62) (by decide) (.int .i64 0)).set (i:=63) (by decide) (.slice (some ⟨w13.heap.size,0,none⟩) 1 1))
 have hal:=Go.Joins.below_alloc1 ((((((((w13.setCell ⟨K,56,none⟩ (.int .i64 1)).setCell ⟨K,57,none⟩ (.int .i64 0)).setCell ⟨K,58,none⟩ (.int .i64 0)).setCell ⟨K,59,none⟩ (.slice none 0 0)).setCell ⟨K,60,none⟩ (.int .i64 127)).setCell ⟨K,61,none⟩ (.int .i64 0)).setCell ⟨K,62,none⟩ (.int .i64 0)).setCell ⟨K,63,none⟩ (.slice (some ⟨w13.heap.size,0,none⟩) 1 1)) (.cells #[.int .i64 1] 3)
 have HK15:=Lib.hid (HK14.out.keep hal)
 have HR15:=Lib.hid ((HR13.out.upd HU14.out (by have:=HKW.out;omega) (fun _ e=>by cases e)).keep hal)
 have HM15:=Lib.hid ((HM13.out.upd HU14.out (by have:=HKLT.out;omega)).keep hal)
 have HO15:=Lib.hid ((HO13.out.kept HU14.out.grownK (by have:=HKLT.out;intro e;injection e with e;omega)).kept (Below.grownN hal none) (by simp))
 have HI15:=Lib.hid ((HI13.out.kept HU14.out.grownK (by have:=HKL11.out;intro e;injection e with e;omega)).kept (Below.grownN hal none) (by simp))
 have HF15:=Lib.hid ((HF13.out.updB HU14.out (fun k hk=>by have:=HKL9.out;omega)).keep hal)
 have HW15:Hid (Row ((((((((((w13.setCell ⟨K,56,none⟩ (.int .i64 1)).setCell ⟨K,57,none⟩ (.int .i64 0)).setCell ⟨K,58,none⟩ (.int .i64 0)).setCell ⟨K,59,none⟩ (.slice none 0 0)).setCell ⟨K,60,none⟩ (.int .i64 127)).setCell ⟨K,61,none⟩ (.int .i64 0)).setCell ⟨K,62,none⟩ (.int .i64 0)).setCell ⟨K,63,none⟩ (.slice (some ⟨w13.heap.size,0,none⟩) 1 1)).alloc (.cells #[.int .i64 1] 3))) w13.heap.size 3 #[.int .i64 1]):=Lib.hid (by
    have:=row_new ((((((((w13.setCell ⟨K,56,none⟩ (.int .i64 1)).setCell ⟨K,57,none⟩ (.int .i64 0)).setCell ⟨K,58,none⟩ (.int .i64 0)).setCell ⟨K,59,none⟩ (.slice none 0 0)).setCell ⟨K,60,none⟩ (.int .i64 127)).setCell ⟨K,61,none⟩ (.int .i64 0)).setCell ⟨K,62,none⟩ (.int .i64 0)).setCell ⟨K,63,none⟩ (.slice (some ⟨w13.heap.size,0,none⟩) 1 1)) 3 #[.int .i64 1]
    simpa only[size_setCell1] using this)
 have HW13:Hid (w11.heap.size<w13.heap.size):=Lib.hid HI13.out.lt
 have HB1315:=Lib.hid ((HU14.out.toBelow (B:=K) (Nat.le_of_lt hkl) (by omega)).trans (hal.mono (Nat.le_of_lt HK14.out.lt)))
 have HB15:=Lib.hid (HB13.out.trans (HB1315.out.mono HKK.out))
 have HB515:=Lib.hid (HB513.out.trans HB1315.out)
 clear hal HU14 HK14 q56 q57 q58 q59 q60 q61 q62 q63 f56 f57 f58 f59 f60 f61 f62 f63 HK13 HR13 HM13 HO13 HI13 HB13 HB513 HB1315 hkne HF13
 generalize (((((((((w13.setCell ⟨K,56,none⟩ (.int .i64 1)).setCell ⟨K,57,none⟩ (.int .i64 0)).setCell ⟨K,58,none⟩ (.int .i64 0)).setCell ⟨K,59,none⟩ (.slice none 0 0)).setCell ⟨K,60,none⟩ (.int .i64 127)).setCell ⟨K,61,none⟩ (.int .i64 0)).setCell ⟨K,62,none⟩ (.int .i64 0)).setCell ⟨K,63,none⟩ (.slice (some ⟨w13.heap.size,0,none⟩) 1 1)).alloc (.cells #[.int .i64 1] 3))=w15 at *
 have q4:=HKKC.out w15 _ 4 _ HK15.out (by decide) rfl
 have HAD:=Lib.hid (add1_is HR15.out)
 go_wp2_with (go_at_call 32;refine HAD.out.mono ?_;rintro e16 w16 ⟨rfl,hr16,hu16⟩;have HR16:=Lib.hid hr16;have HU16:=Lib.hid hu16;clear hr16 hu16)
 go_ret2
 obtain⟨T,cc,hrun,hT⟩:=HR16.out
 have h2:=HKW.out
 have h3:=HRLT.out
 have HZR:Hid (w5.heap.size<w7.heap.size):=HRLT
 have h4:w7.heap.size+1<w11.heap.size:=HSM.out
 have h5:w11.heap.size<w15.heap.size:=HI15.out.lt
 have hKU:Below K w15 w16:=HU16.out.toBelow (Nat.le_of_lt HK15.out.lt) (by omega)
 have hF16:=HF15.out.updB HU16.out (fun k hk=>by have:=HZM.out;have:=HZR.out;omega)
 refine⟨K,_,_,_,_,_,_,_,_,_,rfl,⟨HKP.out.keepB (HB515.out.trans hKU),HK15.out.upd HU16.out (by omega),rfl,HC0.out.2.2.1,rfl,HC0.out.2.2.2.2.1,HC0.out.2.2.2.2.2.1,HC0.out.2.2.2.2.2.2.1,rfl,fun j hj=>?_,?_,⟨_,HM15.out.upd HU16.out (by omega)⟩,HO15.out.kept HU16.out.grownK (by intro e;injection e with e;omega),HI15.out.kept HU16.out.grownK (by intro e;injection e with e;omega),⟨T,cc,hrun,by omega⟩,by omega,fun j hj hj1 hj2=>?_,⟨rfl,rfl,rfl,rfl,rfl,rfl,rfl⟩,⟨_,rfl,HW15.out.upd HU16.out (by have:=HW13.out;have:=HZR.out;omega),HW13.out⟩⟩,⟨_,_,_,_,rfl,hF16,HZM.out,HFL.out⟩,HB15.out.trans (HU16.out.toBelow HB15.out.size (by have:=HKK.out;omega))⟩
 ·have h1:=HC1.out (65+j) (by omega)
  simp only[upV]
  rw[if_neg (by omega),if_neg (by omega),if_neg (by omega),if_neg (by omega),if_neg (by omega),if_neg (by omega),if_neg (by omega),if_neg (by omega),if_neg (by omega),if_neg (by omega),if_neg (by omega),if_neg (by omega),h1]
 ·exact HC2.out.2.2.2.2.2.2.2.2
 ·have h1:=HC1.out j hj
  simp only[upV]
  rw[if_neg (by omega),if_neg (by omega),if_neg (by omega),if_neg (by omega),if_neg (by omega),if_neg (by omega),if_neg (by omega),if_neg (by omega),if_neg (by omega),if_neg (by omega),if_neg (by omega),if_neg (by omega),h1]
end
def ndI (i:Nat):Nd:=⟨kk i,mm i,0,0,0,ll i,ll i,.slice none 0 0,[]⟩
theorem ndI_z {i:Nat}(h:1≤i):ndI i=nd0:=by
 unfold ndI kk mm ll
 rw[if_neg (by omega),if_neg (by omega),if_neg (by omega)]
 rfl
theorem CMap.of_heap {ι:Type} {c:MCode ι} {w:World} {b:Nat}(h:w.heap[b]?=some (.map #[] 0)):CMap c w b 0 (fun _=>none):=
 ⟨_,⟨#[],0,h,⟨by simp,Go.MapKept.stamped_empty 0,by simp⟩,Nat.le_refl _,rfl⟩,isMap_empty,fun k=>⟨c.d0.symm,rfl⟩⟩
theorem lone_gF:Lone1 gF:=⟨by decide,gF_zero (by decide),gF_zero (by decide),gF_zero (by decide),gF_lt⟩
theorem fst_gF:Fst gF 53:=⟨by decide,by decide,by decide,fun i h1 h2=>by
  have:i=37∨i=38∨i=39∨i=40∨i=41∨i=42∨i=43∨i=44∨i=45∨i=46∨i=47∨i=48∨i=49∨i=50∨i=51∨i=52:=by omega
  rcases this with rfl|rfl|rfl|rfl|rfl|rfl|rfl|rfl|rfl|rfl|rfl|rfl|rfl|rfl|rfl|rfl <;> decide⟩
theorem free_gF:Free gF 53 8:=⟨by decide,by decide,fun j hj=>by
  have:j=0∨j=1∨j=2∨j=3∨j=4∨j=5∨j=6∨j=7:=by omega
  rcases this with rfl|rfl|rfl|rfl|rfl|rfl|rfl|rfl <;> decide,fst_gF.al⟩
def fm0 (N cap a b D sb nb:Nat) (F L m:Nat) (s f:List Int):FM:=⟨gF,N,cap,ndI,a,0,fun _=>none,fun _=>[],0,fun _=>none,0,.slice none 0 0,m,s,f,fun j=>j=F∨j=L∨j=a∨j=b∨j=N∨j=D∨j=sb∨j=nb,[]⟩
theorem catS_part {f:List Int} {g:List Int}(hf:f.length=256*64)(h:catS f 3=g) {i:Nat}(hi:i<3):sect f (1+i)=(g.drop (64*i)).take 64:=by
 have l1:(sect f 1).length=64:=sect_len (S:=256) hf (by decide)
 have l2:(sect f 2).length=64:=sect_len (S:=256) hf (by decide)
 have l3:(sect f 3).length=64:=sect_len (S:=256) hf (by decide)
 have e:g=sect f 1++(sect f 2++sect f 3):=by
  rw[← h]
  show (([]++sect f 1)++sect f 2)++sect f 3=_
  rw[List.nil_append,List.append_assoc]
 rw[e]
 rcases i with _|_|_|i
 ·rw[Nat.mul_zero,List.drop_zero,List.take_append,l1,Nat.sub_self,List.take_zero,List.append_nil,List.take_of_length_le (by omega)]
 ·show sect f 2=(((sect f 1++(sect f 2++sect f 3)).drop 64).take 64)
  rw[List.drop_append,List.drop_of_length_le (by omega),l1,Nat.sub_self,List.drop_zero,List.nil_append,List.take_append,l2,Nat.sub_self,List.take_zero,List.append_nil,List.take_of_length_le (by omega)]
 ·show sect f 3=(((sect f 1++(sect f 2++sect f 3)).drop 128).take 64)
  rw[List.drop_append,List.drop_of_length_le (by omega),l1,List.nil_append,show 128-64=64 by omega,List.drop_append,List.drop_of_length_le (by omega),l2,Nat.sub_self,List.drop_zero,List.nil_append,List.take_of_length_le (by omega)]
 ·omega
theorem ndB_I:∀i,i<32→ndB (ndI i)=nodeB i:=fun i hi=>by
 by_cases h:i=0
 ·subst h
  decide
 ·rw[ndI_z (by omega)]
  unfold nodeB
  rw[if_neg h]
  rfl
theorem NS.sec {f:List Int}(hf:f.length=256*64)(h:NS f) {k:Nat}(hk:k<16):sect f (37+k)=ndB (ndI (2*k))++ndB (ndI (2*k+1)):=by
 have l0:∀i,i<32→(nodeB i).length=32:=fun i _=>by unfold nodeB;split;exact rootL_len;exact zeros_len 32
 rw[ndB_I _ (by omega),ndB_I _ (by omega)]
 refine sect_ext hf (by omega) (by rw[List.length_append,l0 _ (by omega),l0 _ (by omega)]) (fun j hj=>?_)
 rcases Nat.lt_or_ge j 32 with q|q
 ·have:=h k 0 hk (by decide) j q
  rw[show 32*0+j=j by omega,show 2*k+0=2*k by omega] at this
  rw[this]
  simp only[List.getD,List.getElem?_append_left (show j<(nodeB (2*k)).length by rw[l0 _ (by omega)];exact q)]
 ·have:=h k 1 hk (by decide) (j-32) (by omega)
  rw[show 32*1+(j-32)=j by omega] at this
  rw[this]
  simp only[List.getD,List.getElem?_append_right (show (nodeB (2*k)).length≤j by rw[l0 _ (by omega)];exact q),l0 _ (show 2*k<32 by omega)]
theorem gF_k:∀k,k<16→gF k=37+k:=by decide
theorem FSy.toFSt {w:World} {B F D L a sb nb m:Nat} {s f:List Int}(h:FSy w B F D L a)(hd:Dk w D sb nb (.slice none 0 0) m 256 s f)(hf:Fmt f)(hB:D<B∧sb<B∧nb<B):∃c x,c.F=F∧c.D=D∧FSt w c x∧Root0 x 53∧x.na=0∧x.sq=0∧x.nh=0∧(∀n,x.held n=none)∧∀j,x.bs j→(B≤j∧j≤F)∨j=D∨j=sb∨j=nb:=by
 have lt:∀ {k o},w.heap[k]?=some o→k<w.heap.size:=fun h=>(Array.getElem?_eq_some_iff.1 h).1
 obtain⟨p,cap,b,h1,h2,h3,h4,h5,h6,h7⟩:=h.x
 obtain⟨N,cap',C,e,hN,hc1,hc2,hnb⟩:=NB.of_own (nd:=ndI) (show w.ownsRow B 120 8 (.slice p 32 cap) 32 (ndsC ndI 32) from h2)
 injection e with e1 _ e2
 subst e1
 subst e2
 have hNa:=h7 N rfl
 have hL:=h.o.l0
 have hNL:N≠L:=fun e=>by
  have r1:=hnb.row
  rw[e] at r1
  have r2:=r1.symm.trans h.o.l
  injection r2 with r2
  injection r2 with _ r3
  exact absurd r3 (by decide)
 refine⟨⟨F,D,L,b,sb,nb⟩,fm0 N cap a b D sb nb F L m s f,rfl,rfl,?_,?_,rfl,rfl,rfl,fun n=>rfl,?_⟩
 ·have hm:∀j,fMut ⟨F,D,L,b,sb,nb⟩ (fm0 N cap a b D sb nb F L m s f) j→j=F∨j=a∨j=b∨j=L∨j=D∨j=sb∨j=nb:=by
   rintro j (e|e|e|e|e|e|e|e)
   ·exact .inl e
   ·exact .inr (.inl e)
   ·exact .inr (.inr (.inl e))
   ·exact .inr (.inr (.inr (.inl e)))
   ·exact .inr (.inr (.inr (.inr (.inl e))))
   ·exact .inr (.inr (.inr (.inr (.inr (.inl e)))))
   ·exact .inr (.inr (.inr (.inr (.inr (.inr e)))))
   ·cases e
  have hD:∀j,fDk ⟨F,D,L,b,sb,nb⟩ (fm0 N cap a b D sb nb F L m s f) j→j=D∨j=sb∨j=nb:=by
   rintro j (e|e|e|e)
   ·exact .inl e
   ·exact .inr (.inl e)
   ·exact .inr (.inr e)
   ·cases e
  refine⟨h1,lone_gF,gF_fr,h.o.l,⟨C,hnb⟩,⟨hc1,hc2⟩,fun i hi=>⟨⟨⟨none,0,rfl,Nat.le_refl _,Nat.zero_le _,.inl rfl⟩,fun j e=>(by cases e),fun j e=>(by cases e)⟩,fun j e=>(by cases e)⟩,CMap.of_heap h.o.m,fun p s e=>(by cases e),CMap.of_heap h3,hd,fun e=>?_,?_,?_,fun j e=>?_,?_,fun j e=>?_,?_⟩
  ·have:=hm _ e
   have e:(fm0 N cap a b D sb nb F L m s f).N=N:=rfl
   rw[e] at this
   omega
  ·refine⟨?_,?_,?_,?_,?_,?_⟩
   ·show F≠a;omega
   ·show F≠b;omega
   ·show F≠L;omega
   ·show a≠b;omega
   ·show a≠L;omega
   ·show b≠L;omega
  ·refine⟨fun e=>?_,fun e=>?_,fun e=>?_,fun e=>?_⟩
   ·have:F=D∨F=sb∨F=nb:=hD _ e
    omega
   ·have:a=D∨a=sb∨a=nb:=hD _ e
    omega
   ·have:b=D∨b=sb∨b=nb:=hD _ e
    omega
   ·have:L=D∨L=sb∨L=nb:=hD _ e
    omega
  ·show j=F∨j=L∨j=a∨j=b∨j=N∨j=D∨j=sb∨j=nb
   have:=hm j e
   omega
  ·show N=F∨N=L∨N=a∨N=b∨N=N∨N=D∨N=sb∨N=nb
   omega
  ·have e:j=F∨j=L∨j=a∨j=b∨j=N∨j=D∨j=sb∨j=nb:=e
   have:=lt h1
   have:=hd.lt
   have:=hd.sB.lt
   have:=hd.nB.lt
   omega
  ·obtain⟨xs,ho⟩:=hd.own
   have hm:m=0:=by
    rcases ho.2 with ⟨_,hn⟩|⟨g,c,cur,he,_⟩
    ·exact hn
    ·cases he
   subst hm
   exact World.ownsRow_nil _ _ _ _
 ·refine⟨rfl,rfl,rfl,rfl,rfl,rfl,rfl,rfl,fun i h1 _=>ndI_z h1,fun k hk=>?_,fst_gF,free_gF,⟨hf.s0,fun i hi=>catS_part hd.lf hf.fo hi,hf.s4,fun k hk=>hf.nd.sec hd.lf hk,gF_k,fun p s e=>(by cases e)⟩,rfl,rfl⟩
  show 37≤gF k∧gF k<256∧hasB (hasT gF) (gF k)=true
  have hk:k=0∨k=1∨k=2∨k=3∨k=4∨k=5∨k=6∨k=7∨k=8∨k=9∨k=10∨k=11∨k=12∨k=13∨k=14∨k=15:=by omega
  rcases hk with rfl|rfl|rfl|rfl|rfl|rfl|rfl|rfl|rfl|rfl|rfl|rfl|rfl|rfl|rfl|rfl <;> decide
 ·intro j e
  have e:j=F∨j=L∨j=a∨j=b∨j=N∨j=D∨j=sb∨j=nb:=e
  omega
theorem started2_is (w:World):Calls Tryz.prog 4 #[] w fun e w'=>∃K D B P Wh Fi Pr R M so sp c,e=.returned (.tuple #[.pointer (some ⟨K,0,none⟩),.pointer (some ⟨D,0,none⟩),.bool true])∧KS w' B K P Wh Fi Pr R M so sp c∧(∃k x,c 2=.pointer (some ⟨k.F,0,none⟩)∧k.D=D∧FSt w' k x∧Root0 x 53∧x.na=0∧x.sq=0∧x.nh=0∧(∀n,x.held n=none)∧∀j,x.bs j→w.heap.size≤j∧(M<j∧j<sp∨j<B))∧w.heap.size≤B∧Below w.heap.size w w':=by
 have HM:=Lib.hid (make_is w)
 go_enter Tryz.func4,Tryz.ntmps4
 go_upto_region 4 with (go_at_call 11;refine HM.out.mono ?_;rintro e1 w1 ⟨D,sb,nb,rfl,hd1,l1,l2,l3,hb1⟩)
 have HS:=Lib.hid (start2_is hd1 fmt_is.1)
 have HB1:=Lib.hid hb1
 have HD1:=Lib.hid (And.intro hd1 (And.intro l1 (And.intro l2 l3)))
 clear hd1 l1 l2 l3 hb1 HM
 go_wp2_with (go_at_call 12;refine HS.out.mono ?_;rintro e2 w2 ⟨K,P,Wh,Fi,Pr,R,M,so,sp,c,rfl,hk2,hx2,hb2⟩;have HK2:=Lib.hid hk2;have HX2:=Lib.hid hx2;have HB2:=Lib.hid hb2;clear hk2 hx2 hb2)
 go_ret3
 obtain⟨hd1,l1,l2,l3⟩:=HD1.out
 obtain⟨B0,F,L,a,hc2,hy,hM,hF⟩:=HX2.out
 have hd2:=hd1.keep HB2.out
 have q1:=hd1.lt
 have q2:=hd1.sB.lt
 have q3:=hd1.nB.lt
 have o:=HK2.out.or
 have ob:=HK2.out.kp.b
 obtain⟨k,x,rfl,hkD,hst,hr,n1,n0,n2,n3,n4⟩:=hy.toFSt hd2 fmt_is.1 (by omega)
 refine⟨K,D,_,_,_,_,_,_,_,_,_,c,rfl,HK2.out,⟨k,x,hc2,hkD,hst,hr,n1,n0,n2,n3,fun j e=>?_⟩,HB1.out.size,HB1.out.trans (HB2.out.mono HB1.out.size)⟩
 have:=n4 j e
 have:=HB1.out.size
 omega
structure KF (w:World) (k:KC) (s:KSt) (fc:FC) (x:FM):Prop where
 kt:KT w k s
 c2:s.c 2=.pointer (some ⟨fc.F,0,none⟩)
 fs:FSt w fc x
 sep:∀j,x.bs j→s.tag j=0
theorem KF.keep {w w':World} {k:KC} {s:KSt} {fc:FC} {x:FM}(h:KF w k s fc x)(hb:Below w.heap.size w w'):KF w' k s fc x:=⟨h.kt.keep hb,h.c2,h.fs.keep hb,h.sep⟩
structure Who (w:World) (s:KSt) (p:Nat) (U K:Int) (a:Option Addr) (cap gc cc:Nat):Prop where
 p16:p≤16
 cr:∀i,i<6→(crA U K a cap)[i]?=some (s.c (8+p*38+11+i))
 wd:s.c (8+p*38+17)=.slice (some ⟨gc,0,none⟩) 1 cc
 mt:s.c (8+p*38+18)=.slice none 0 0
 g:w.cell? ⟨gc,0,none⟩=some (.int .i64 1)
 hc:cap≤maxLen
 c1:1≤cc
 c2:cc≤maxLen
 hU:0≤U∧U≤99
 hK:0≤K∧K≤127
theorem Who.keep {w w':World} {s:KSt} {p:Nat} {U K:Int} {a:Option Addr} {cap gc cc:Nat}(h:Who w s p U K a cap gc cc)(hb:Below w.heap.size w w'):Who w' s p U K a cap gc cc:=⟨h.p16,h.cr,h.wd,h.mt,(hb.cell (p:=⟨gc,0,none⟩) (World.block_lt_of_cell? w _ h.g)).trans h.g,h.hc,h.c1,h.c2,h.hU,h.hK⟩
theorem cred_cells {c:Nat→Value} {o:Nat}(ho:o+6≤655) {A:Array Value}(hA:A.size=6)(h:∀i,i<6→A[i]?=some (c (o+i))):(kerA c).extract o (o+6)=A:=by
 apply Array.ext_getElem?
 intro i
 rw[Array.getElem?_extract]
 by_cases hi:i<6
 ·rw[if_pos (by rw[kerA_size];omega),h i hi]
  simp only[kerA]
  rw[Array.getElem?_ofFn,dif_pos (by omega)]
 ·rw[if_neg (by rw[kerA_size];omega),Array.getElem?_eq_none (by omega)]
section
variable {w:World} {k:KC} {s:KSt} {fc:FC} {x:FM} {p:Nat} {U K:Int} {a:Option Addr} {cap gc cc:Nat}
theorem KF.ldcr (h:KF w k s fc x) (q:Who w s p U K a cap gc cc):(ldR 56 (.pointer (some ⟨k.K,8+p*38+11,none⟩))).run Tryz.prog w=.ok (.agg (crA U K a cap)) w:=by
 have:=q.p16
 rw[Row.ld h.kt.kr (o:=8+p*38+11) (n:=6) (by rw[kerA_size];omega) Tryz.underlying56 rfl (by kernel_rfl),cred_cells (by omega) rfl q.cr]
theorem KF.fsp (h:KF w k s fc x):w.cell? ⟨k.K,2,none⟩=some (.pointer (some ⟨fc.F,0,none⟩)):=by rw[h.kt.kr.cell (by decide),h.c2]
attribute [local go_sem ↓] ld_sta st_sta ld_crd
attribute [local go_sem] stS_new
theorem kmay_is (h:KF w k s fc x) (q:Who w s p U K a cap gc cc) {i:Nat}(hi:i<32) {n:Int}(hn:n=i+1)(hk:¬(x.nd i).k=0) {W:Int} {ok:Bool}
  (hM:∀w,Calls Tryz.prog 167 #[.agg (stA (x.nd i)),.agg (crA U K a cap),.int .i64 W] w fun e w'=>e=.returned (.tuple #[.bool ok,.int .i64 0])∧Below w.heap.size w w') :
  Calls Tryz.prog 91 #[.pointer (some ⟨k.K,0,none⟩),.int .i64 p,.int .i64 n,.int .i64 W] w fun e w'=>e=.returned (.int .i64 (bif ok then 0 else 7))∧Below w.heap.size w w':=by
 have c2:=h.fsp
 have HST:=Lib.hid (statF_is h.fs hi hn hk)
 have HLC:=Lib.hid (fun wx (hb:Below w.heap.size w wx)=>(h.keep hb).ldcr (q.keep hb))
 have HM:=Lib.hid hM
 have i17:(p:Int)<17:=by have:=q.p16;omega
 clear h q hM hi hn hk
 generalize x.nd i=nd at *
 cases ok
 all_goals
  dsimp only[cond_true,cond_false]
  go_enter Tryz.func91,Tryz.ntmps91
  go_upto_region 2 with (go_at_call 158;(with_reducible refine HST.out.mono ?_);rintro e1 w1 ⟨rfl,hb1⟩)
  have HB2:=Lib.hid (hb1.alloc hb1.size (.cells (stA nd) 33))
  have HR2:=Lib.hid (row_new w1 33 (stA nd))
  clear hb1 c2
  generalize hb9:w1.heap.size=b9 at *
  generalize w1.alloc (.cells (stA nd) 33)=w2 at *
  clear hb9
  have HL:Hid (∀wx,Below w2.heap.size w2 wx→((ldR 33 (.pointer (some ⟨b9,0,none⟩))).run Tryz.prog wx=.ok (.agg (stA nd)) wx∧(ldR 56 (.pointer (some ⟨k.K,8+p*38+11,none⟩))).run Tryz.prog wx=.ok (.agg (crA U K a cap)) wx)):=Lib.hid (fun wx hb=>⟨(HR2.out.keep hb).ld0 Tryz.underlying33 rfl (by unfold stA;kernel_rfl),HLC.out _ (HB2.out.trans (hb.mono HB2.out.size))⟩)
  go_upto_region 4 with fail
  go_region_held3 (fun wx=>(ldR 33 (.pointer (some ⟨b9,0,none⟩))).run Tryz.prog wx=.ok (.agg (stA nd)) wx∧(ldR 56 (.pointer (some ⟨k.K,8+p*38+11,none⟩))).run Tryz.prog wx=.ok (.agg (crA U K a cap)) wx) (first|(with_reducible exact HL.out _ (Below.refl _ _))|(with_reducible exact HL.out _ (Below.refl _ _).drew)|(with_reducible exact HL.out _ HB3.out)|fail)
     (first|(go_at_call 167;(with_reducible refine(HM.out _).mono ?_);rintro e3 w3 ⟨rfl,hb3⟩;have HB3:=Lib.hid ((Below.refl w2.heap.size w2).drew.trans hb3);clear hb3)|fail)
  go_wp2_with fail
  go_ret
  exact⟨rfl,HB2.out.trans (HB3.out.mono HB2.out.size)⟩
theorem klast_is (h:KF w k s fc x) (q:Who w s p U K a cap gc cc)(hk:(x.nd 0).k=2)
  (hM:∀w,Calls Tryz.prog 167 #[.agg (stA (x.nd 0)),.agg (crA U K a cap),.int .i64 4] w fun e w'=>e=.returned (.tuple #[.bool true,.int .i64 0])∧Below w.heap.size w w')
  (hM2:∀w,Calls Tryz.prog 167 #[.agg (stA (x.nd 0)),.agg (crA U K a cap),.int .i64 2] w fun e w'=>e=.returned (.tuple #[.bool true,.int .i64 0])∧Below w.heap.size w w') :
  Calls Tryz.prog 160 #[.pointer (some ⟨k.K,0,none⟩),.int .i64 p,.string ⟨#[102]⟩] w fun e w'=>e=.returned (.tuple #[.int .i64 1,.string ⟨#[102]⟩,.int .i64 0])∧Below w.heap.size w w':=by
 have HPL:=Lib.hid (fun wx (hb:Below w.heap.size w wx)=>pLast_is (h.keep hb).fs hk q.hU q.hK q.hc (q.keep hb).g q.c1 q.c2 hM)
 have HMY:=Lib.hid (fun wx (hb:Below w.heap.size w wx)=>kmay_is (h.keep hb) (q.keep hb) (i:=0) (by decide) (n:=1) rfl (by rw[hk];decide) hM2)
 have HL:Hid (∀wx,Below w.heap.size w wx→(wx.cell? ⟨k.K,2,none⟩=some (.pointer (some ⟨fc.F,0,none⟩))∧wx.cell? ⟨k.K,8+p*38+18,none⟩=some (.slice none 0 0)∧(ldR 56 (.pointer (some ⟨k.K,8+p*38+11,none⟩))).run Tryz.prog wx=.ok (.agg (crA U K a cap)) wx∧wx.cell? ⟨k.K,8+p*38+17,none⟩=some (.slice (some ⟨gc,0,none⟩) 1 cc))):=Lib.hid (fun wx hb=>⟨(h.keep hb).fsp,by rw[(h.keep hb).kt.kr.cell (by have:=q.p16;omega),q.mt],(h.keep hb).ldcr (q.keep hb),by rw[(h.keep hb).kt.kr.cell (by have:=q.p16;omega),q.wd]⟩)
 have i17:(p:Int)<17:=by have:=q.p16;omega
 clear h q hM hM2 hk
 go_enter Tryz.func160,Tryz.ntmps160
 go_upto_region 2 with fail
 go_region_held3 (fun wx=>wx.cell? ⟨k.K,2,none⟩=some (.pointer (some ⟨fc.F,0,none⟩))∧wx.cell? ⟨k.K,8+p*38+18,none⟩=some (.slice none 0 0)∧(ldR 56 (.pointer (some ⟨k.K,8+p*38+11,none⟩))).run Tryz.prog wx=.ok (.agg (crA U K a cap)) wx∧wx.cell? ⟨k.K,8+p*38+17,none⟩=some (.slice (some ⟨gc,0,none⟩) 1 cc)) (first|(with_reducible exact HL.out _ (Below.refl _ _))|(with_reducible exact HL.out _ (Below.refl _ _).drew)|(with_reducible exact HL.out _ HB1.out)|fail)
     (first|(go_at_call 230;(with_reducible refine(HPL.out _ (Below.refl _ _).drew).mono ?_);rintro e1 w1 ⟨g1,c1,rfl,y1,q1,q2,hb1⟩;have HB1:=Lib.hid ((Below.refl w.heap.size w).drew.trans hb1);clear hb1)|fail)
 have HM1:=Lib.hid (HMY.out _ HB1.out)
 have hmx:(c1:Int)≤9223372036854775807:=by unfold maxLen at q2;omega
 clear HMY HPL HL q2
 go_wp2_with (go_at_call 91;(with_reducible refine HM1.out.mono ?_);rintro e2 w2 ⟨rfl,hb2⟩)
 go_ret3
 exact⟨rfl,HB1.out.trans (hb2.mono HB1.out.size)⟩
end
end Go.Proofs.YtfkepfncgdlgoaaGreatDoor
