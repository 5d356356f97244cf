/- The walk of kernel.Start at a disk whose log is replayed. Printed by gen_startg.py. The walk of disk's Crash: what waited is there or not, all else as it lasts. -/
import Derived.Test.YtfkepfncgdlgoaaGreatDoorAgA
import Derived.Test.YtfkepfncgdlgoaaGreatDoorFsA
import Derived.Test.YtfkepfncgdlgoaaGreatDoorBaB
import Derived.Test.YtfkepfncgdlgoaaGreatDoorFmtP
import Derived.StillTailTactics
namespace Go.Proofs.YtfkepfncgdlgoaaGreatDoor
open Go.RowKit Go.Maps
open Go.RowKit
set_option linter.unusedVariables false
set_option linter.unusedSimpArgs false
set_option maxRecDepth 100000
set_option maxHeartbeats 4000000
theorem Upd.andB {S:Nat→Prop} {w a b:World} {B:Nat}(h:Upd S w a) (k:Below B a b)(hB:w.heap.size≤B):Upd S w b:=
 ⟨k.os.trans h.os,k.tape.trans h.tape,k.output.trans h.output,Nat.le_trans h.size k.size,fun i hi hn=>(k.block i (by omega)).trans (h.block i hi hn)⟩
theorem KP.upd {S:Nat→Prop} {w w':World} {B P Wh Fi Pr K:Nat}(h:KP w B P Wh Fi Pr K)(hu:Upd S w w')(hS:∀k,S k→k<B):KP w' B P Wh Fi Pr K:=by
 have b:=h.b
 have n:∀ {k},B≤k→¬S k:=fun hk q=>by have:=hS _ q;omega
 exact⟨h.pi.upd hu (n (by omega)),h.wh.upd hu (n (by omega)),h.fi.upd hu (n (by omega)),h.pr.upd hu (n (by omega)),h.b⟩
def MG (w:World) (B F D L a b N cap q m sb nb:Nat) (wv:Value) (G:Nat→Nat) (y nd:Nat→Nd) (s f:List Int):Prop:=FSg w B F D L a b N cap q wv G y nd∧Dk w D sb nb wv m 256 s f
theorem MG.updB {S:Nat→Prop} {w w':World} {B F D L a b N cap q m sb nb:Nat} {wv:Value} {G:Nat→Nat} {y nd:Nat→Nd} {s f:List Int}(h:MG w B F D L a b N cap q m sb nb wv G y nd s f)(hu:Upd S w w')(hS:∀k,S k→k<B∧k≠D∧k≠sb∧k≠nb):MG w' B F D L a b N cap q m sb nb wv G y nd s f:=by
 obtain⟨B1,h2,h3,h4,h5,-⟩:=h.1.bd
 exact⟨h.1.updB hu (fun k q=>(hS k q).1),h.2.upd8 hu (fun e=>(hS _ e).2.1 rfl) (fun e=>(hS _ e).2.2.1 rfl) (fun e=>(hS _ e).2.2.2 rfl) (fun j e q=>by have:=(hS _ q).1;have:=(h5 j e).1;omega)⟩
theorem MG.keep {w w':World} {B F D L a b N cap q m sb nb:Nat} {wv:Value} {G:Nat→Nat} {y nd:Nat→Nd} {s f:List Int}(h:MG w B F D L a b N cap q m sb nb wv G y nd s f)(hb:Below w.heap.size w w'):MG w' B F D L a b N cap q m sb nb wv G y nd s f:=⟨h.1.keep hb,h.2.keep hb⟩
theorem spnew8_is (w:World):Calls Tryz.prog 30 #[.int .i64 8,.int .i64 8] w fun e w'=>e=.returned (.tuple #[.pointer (some ⟨w.heap.size+1,0,none⟩),.int .i64 0])∧w'=(w.alloc (.map #[] 0)).alloc (.cells #[.int .i64 8,.int .i64 8,.int .i64 0,.slice none 0 0,.map (some w.heap.size)] 179):=by
 have hmm:=@run_makeMap Tryz.prog
 go_enter Tryz.func30,Tryz.ntmps30
 go_wp2_with fail
 go_ret2
 exact⟨rfl,rfl⟩
attribute [local go_sem ↓] bd_ker
section
variable {w:World} {D sb nb m:Nat} {s f:List Int} {G:Nat→Nat} {y:Nat→Nd} {bl:Nat→List Int}
theorem startG_is (h:Dk w D sb nb (.slice none 0 0) m 256 s f)(hm0:sect f 0=markL) {q:Nat} {l:List WR}(hj:JOk f q l)(ho:WrOk l)(h64:∀y∈l,y.l.length=64)(h0:l≠[])(hq:q<4294967296)(hm:m≤1000)(hf:FmtG (wrAll f l) G y bl):Calls Tryz.prog 12 #[.int .i64 1,.int .i64 8,.int .i64 8,.pointer (some ⟨D,0,none⟩)] w fun e w'=>∃K P Wh Fi Pr R M so sp c,e=.returned (.tuple #[.pointer (some ⟨K,0,none⟩),.int .i64 0])∧KS w' w.heap.size K P Wh Fi Pr R M so sp c∧(∃B0 F L a b N cap wv' m' nd,c 2=.pointer (some ⟨F,0,none⟩)∧MG w' B0 F D L a b N cap q m' sb nb wv' G y nd s (wrAll f l)∧M<B0∧F<sp)∧Upd (fun j=>j=D∨j=sb∨j=nb) w w':=by
 have HD:=Lib.hid h
 have HF:=Lib.hid hf
 have hbd:=bd_ker_run
 have HP:=Lib.hid (pnew_is w)
 have HWN:=Lib.hid (wnew_is (w.alloc (.cells pipA 155)))
 have HON:=Lib.hid (OpenLaw.new_is ((w.alloc (.cells pipA 155)).alloc (.cells #[.int .u32 0,.slice none 0 0] 158)))
 have HJJ:=Lib.hid (And.intro hm0 (And.intro hj (And.intro ho (And.intro h64 (And.intro h0 (And.intro hq hm))))))
 have HDL:Hid (D<w.heap.size∧sb<w.heap.size∧nb<w.heap.size):=Lib.hid ⟨h.lt,h.sB.lt,h.nB.lt⟩
 clear h hf hm0 hj ho h64 h0 hq hm
 go_enter Tryz.func12,Tryz.ntmps12
 go_upto_region 2 with (first|(go_at_call 25;refine HP.out.mono ?_;rintro e1 w1 ⟨rfl,rfl⟩)|(go_at_call 26;refine HWN.out.mono ?_;rintro e2 w2 ⟨rfl,rfl⟩)|(go_at_call 27;refine HON.out.mono ?_;rintro e3 w3 ⟨rfl,hb3,hz3,ho3⟩;have HPN:=Lib.hid (ProcLaw.new_is w3))|(go_at_call 28;refine HPN.out.mono ?_;rintro e4 w4 ⟨rfl,hb4,hp4⟩))
 have hz2:((w.alloc (.cells pipA 155)).alloc (.cells #[.int .u32 0,.slice none 0 0] 158)).heap.size=w.heap.size+1+1:=by simp
 have hz1:(w.alloc (.cells pipA 155)).heap.size=w.heap.size+1:=by simp
 have hpi:=(((row_new w 155 pipA).alloc (.cells #[.int .u32 0,.slice none 0 0] 158)).keep hb3).keep hb4
 have hwh:=((row_new (w.alloc (.cells pipA 155)) 158 #[.int .u32 0,.slice none 0 0]).keep hb3).keep hb4
 rw[hz1] at hwh
 have hfi:=ho3.keep hb4
 rw[hz2] at hz3 hfi
 rw[hz3] at hp4
 have hb02:Below w.heap.size w ((w.alloc (.cells pipA 155)).alloc (.cells #[.int .u32 0,.slice none 0 0] 158)):=((Below.refl _ _).alloc (Nat.le_refl _) _).alloc (by simp) _
 have hb04:=hb02.trans ((hb3.trans (hb4.mono hb3.size)).mono hb02.size)
 have hal:=Go.Joins.below_alloc1 w4 (.cells (((((Tryz.zeroCells72.setIfInBounds 0 (.int .i64 1)).setIfInBounds 3 (.pointer (some ⟨w.heap.size,0,none⟩))).setIfInBounds 5 (.pointer (some ⟨w.heap.size+1,0,none⟩))).setIfInBounds 6 (.pointer (some ⟨w.heap.size+1+1,0,none⟩))).setIfInBounds 7 (.pointer (some ⟨w.heap.size+1+1+1,0,none⟩))) 72)
 have HK:Hid (KR (w4.alloc (.cells (((((Tryz.zeroCells72.setIfInBounds 0 (.int .i64 1)).setIfInBounds 3 (.pointer (some ⟨w.heap.size,0,none⟩))).setIfInBounds 5 (.pointer (some ⟨w.heap.size+1,0,none⟩))).setIfInBounds 6 (.pointer (some ⟨w.heap.size+1+1,0,none⟩))).setIfInBounds 7 (.pointer (some ⟨w.heap.size+1+1+1,0,none⟩))) 72)) w4.heap.size (upV (upV (upV (upV (upV kz 0 (.int .i64 1)) 3 (.pointer (some ⟨w.heap.size,0,none⟩))) 5 (.pointer (some ⟨w.heap.size+1,0,none⟩))) 6 (.pointer (some ⟨w.heap.size+1+1,0,none⟩))) 7 (.pointer (some ⟨w.heap.size+1+1+1,0,none⟩)))):=Lib.hid (by
    unfold KR
    rw[← ker0]
    exact row_new w4 _ _)
 have HKP:Hid (KP (w4.alloc (.cells (((((Tryz.zeroCells72.setIfInBounds 0 (.int .i64 1)).setIfInBounds 3 (.pointer (some ⟨w.heap.size,0,none⟩))).setIfInBounds 5 (.pointer (some ⟨w.heap.size+1,0,none⟩))).setIfInBounds 6 (.pointer (some ⟨w.heap.size+1+1,0,none⟩))).setIfInBounds 7 (.pointer (some ⟨w.heap.size+1+1+1,0,none⟩))) 72)) w.heap.size w.heap.size (w.heap.size+1) (w.heap.size+1+1) (w.heap.size+1+1+1) w4.heap.size):=Lib.hid ⟨hpi.keep hal,hwh.keep hal,hfi.keep hal,hp4.keep hal,by have:=hp4.lt;omega⟩
 have HB5:=Lib.hid (hb04.trans (hal.mono hb04.size))
 have HKK:Hid (w.heap.size≤w4.heap.size):=Lib.hid hb04.size
 clear hz1 hz2 hz3 hpi hwh hfi hb02 hb04 hal hb3 hb4 ho3 hp4 HP HWN HON HPN hbd
 generalize w4.alloc (.cells (((((Tryz.zeroCells72.setIfInBounds 0 (.int .i64 1)).setIfInBounds 3 (.pointer (some ⟨w.heap.size,0,none⟩))).setIfInBounds 5 (.pointer (some ⟨w.heap.size+1,0,none⟩))).setIfInBounds 6 (.pointer (some ⟨w.heap.size+1+1,0,none⟩))).setIfInBounds 7 (.pointer (some ⟨w.heap.size+1+1+1,0,none⟩))) 72)=w5 at *
 obtain⟨K,hK⟩:∃K,K=w4.heap.size:=⟨_,rfl⟩
 rw[← hK] at HK HKP HKK ⊢
 clear hK
 have HBK:Hid (Below K w5 w5):=Lib.hid (Below.refl _ _)
 have HKW:Hid (K<w5.heap.size):=Lib.hid HK.out.lt
 obtain⟨c0,hc0⟩:∃c0,c0=(upV (upV (upV (upV (upV kz 0 (.int .i64 1)) 3 (.pointer (some ⟨w.heap.size,0,none⟩))) 5 (.pointer (some ⟨w.heap.size+1,0,none⟩))) 6 (.pointer (some ⟨w.heap.size+1+1,0,none⟩))) 7 (.pointer (some ⟨w.heap.size+1+1+1,0,none⟩))):=⟨_,rfl⟩
 rw[← hc0] at HK
 have HC0:Hid (c0 1=.pointer none∧c0 2=.pointer none∧c0 3=.pointer (some ⟨w.heap.size,0,none⟩)∧c0 4=.pointer none∧c0 5=.pointer (some ⟨w.heap.size+1,0,none⟩)∧c0 6=.pointer (some ⟨w.heap.size+1+1,0,none⟩)∧c0 7=.pointer (some ⟨w.heap.size+1+1+1,0,none⟩)∧c0 46=.int .i64 0∧c0 56=.int .i64 0∧c0 57=.int .i64 0∧c0 58=.int .i64 0∧c0 59=.slice none 0 0∧c0 60=.int .i64 0∧c0 61=.int .i64 0∧c0 62=.int .i64 0∧c0 63=.slice none 0 0∧c0 83=.bool false):=Lib.hid (by
    rw[hc0]
    exact⟨rfl,rfl,rfl,rfl,rfl,rfl,rfl,rfl,rfl,rfl,rfl,rfl,rfl,rfl,rfl,rfl,rfl⟩)
 have HC1:Hid (∀j,8≤j→c0 j=kz j):=Lib.hid (fun j hj=>by
    rw[hc0]
    unfold upV
    rw[if_neg (by omega),if_neg (by omega),if_neg (by omega),if_neg (by omega),if_neg (by omega)])
 clear hc0
 have HSN:=Lib.hid (snew1_is w5)
 have kk:∀(w':World) (c:Nat→Value) (i:Nat) (v:Value),KR w' K c→i<655→c i=v→w'.cell? ⟨K,i,none⟩=some v:=fun w' c i v h hi e=>by rw[h.cell hi,e]
 have HKKC:=Lib.hid kk
 clear kk
 go_upto_region 4 with (go_at_call 29;refine HSN.out.mono ?_;rintro e6 w6 ⟨rfl,hb6,hz6,hr6⟩;have k6:=HK.out.keep hb6;have q6:=HKKC.out w6 _ 4 _ k6 (by decide) HC0.out.2.2.2.1;have f6:=k6.fz 4)
 have HU7:=Lib.hid (Upd.set w6 (b:=K) (i:=4) (.pointer (some ⟨w5.heap.size,0,none⟩)) (S:=fun k=>k=K) rfl)
 have HK7:=Lib.hid (k6.set (i:=4) (by decide) (.pointer (some ⟨w5.heap.size,0,none⟩)))
 have HR7:=Lib.hid (hr6.upd HU7.out (by have:=HKW.out;omega) (fun _ e=>by cases e))
 have HB56:=Lib.hid ((hb6.mono (Nat.le_of_lt HKW.out)).trans (HU7.out.toBelow (Nat.le_trans (Nat.le_of_lt HKW.out) hb6.size) (by omega)))
 have HB7:=Lib.hid (HB5.out.trans (HB56.out.mono HKK.out))
 have HS7:Hid (w6.heap.size=(w6.setCell ⟨K,4,none⟩ (.pointer (some ⟨w5.heap.size,0,none⟩))).heap.size):=Lib.hid (by simp[World.setCell])
 have HZ6:=Lib.hid hz6
 clear k6 q6 f6 hz6 hr6 hb6 HSN HU7
 generalize w6.setCell ⟨K,4,none⟩ (.pointer (some ⟨w5.heap.size,0,none⟩))=w7 at *
 have HSP:=Lib.hid (spnew8_is w7)
 have hal:Below w7.heap.size w7 ((w7.alloc (.map #[] 0)).alloc (.cells #[.int .i64 8,.int .i64 8,.int .i64 0,.slice none 0 0,.map (some w7.heap.size)] 179)):=((Below.refl _ _).alloc (Nat.le_refl _) _).alloc (by simp) _
 have k8:=HK7.out.keep hal
 have q8:=HKKC.out _ _ 1 _ k8 (by decide) HC0.out.1
 have f8:=k8.fz 1
 have hom:OMap ((w7.alloc (.map #[] 0)).alloc (.cells #[.int .i64 8,.int .i64 8,.int .i64 0,.slice none 0 0,.map (some w7.heap.size)] 179)) w7.heap.size 0 (fun _=>none):=(OMap.made w7).kept (Below.grownN (Go.Joins.below_alloc1 _ _) none) (by simp)
 have hmr:=row_new (w7.alloc (.map #[] 0)) 179 #[.int .i64 8,.int .i64 8,.int .i64 0,.slice none 0 0,.map (some w7.heap.size)]
 rw[size_alloc1] at hmr
 have hr8:=HR7.out.keep hal
 have hs8:((w7.alloc (.map #[] 0)).alloc (.cells #[.int .i64 8,.int .i64 8,.int .i64 0,.slice none 0 0,.map (some w7.heap.size)] 179)).heap.size=w7.heap.size+1+1:=by simp
 have HKLT:Hid (K<w7.heap.size):=Lib.hid HK7.out.lt
 have HRLT:Hid (w5.heap.size<w7.heap.size):=Lib.hid HR7.out.lt
 have HU9:=Lib.hid (Upd.set ((w7.alloc (.map #[] 0)).alloc (.cells #[.int .i64 8,.int .i64 8,.int .i64 0,.slice none 0 0,.map (some w7.heap.size)] 179)) (b:=K) (i:=1) (.pointer (some ⟨w7.heap.size+1,0,none⟩)) (S:=fun k=>k=K) rfl)
 have HK9:=Lib.hid (k8.set (i:=1) (by decide) (.pointer (some ⟨w7.heap.size+1,0,none⟩)))
 have HR9:=Lib.hid (hr8.upd HU9.out (by have:=HKW.out;omega) (fun _ e=>by cases e))
 have HM9:=Lib.hid (hmr.upd HU9.out (by have:=HKLT.out;omega))
 have HO9:=Lib.hid (hom.kept HU9.out.grownK (by have:=HKLT.out;intro e;injection e with e;omega))
 have HB79:=Lib.hid ((hal.mono (Nat.le_of_lt HKLT.out)).trans (HU9.out.toBelow (by rw[hs8];have:=HKLT.out;omega) (by omega)))
 have HB9:=Lib.hid (HB7.out.trans (HB79.out.mono HKK.out))
 have HB59:=Lib.hid (HB56.out.trans HB79.out)
 have HZM:Hid (w7.heap.size+1<((((w7.alloc (.map #[] 0)).alloc (.cells #[.int .i64 8,.int .i64 8,.int .i64 0,.slice none 0 0,.map (some w7.heap.size)] 179)).setCell ⟨K,1,none⟩ (.pointer (some ⟨w7.heap.size+1,0,none⟩)))).heap.size):=Lib.hid HM9.out.lt
 clear hom hmr hr8 k8 hal HU9 HK7 HR7 HB7 HB56 HB79
 go_upto_region 7 with (go_at_call 30;refine HSP.out.mono ?_;rintro e8 w8 ⟨rfl,rfl⟩)
 clear q8 f8 hs8 HSP
 generalize ((w7.alloc (.map #[] 0)).alloc (.cells #[.int .i64 8,.int .i64 8,.int .i64 0,.slice none 0 0,.map (some w7.heap.size)] 179)).setCell ⟨K,1,none⟩ (.pointer (some ⟨w7.heap.size+1,0,none⟩))=w9 at *
 have HMT:=Lib.hid (mountG_is (HD.out.keep HB9.out) HJJ.out.1 HJJ.out.2.1 HJJ.out.2.2.1 HJJ.out.2.2.2.1 HJJ.out.2.2.2.2.1 HJJ.out.2.2.2.2.2.1 HJJ.out.2.2.2.2.2.2 HF.out)
 go_upto_region 10 with (go_at_call 22;refine HMT.out.mono ?_;rintro e10 w10 ⟨F,L,a,b,N,cap,wv9,m9,nd9,rfl,hfs,hdk,hb10⟩;have k10:=HK9.out.upd hb10 (by have:=HDL.out;have:=HKK.out;omega);have q10:=HKKC.out w10 _ 2 _ k10 (by decide) HC0.out.2.1;have f10:=k10.fz 2)
 have HU11:=Lib.hid (Upd.set w10 (b:=K) (i:=2) (.pointer (some ⟨F,0,none⟩)) (S:=fun k=>k=K) rfl)
 have HKL9:Hid (K<w9.heap.size):=Lib.hid HK9.out.lt
 have HK11:=Lib.hid (k10.set (i:=2) (by decide) (.pointer (some ⟨F,0,none⟩)))
 have HR11:=Lib.hid ((HR9.out.upd hb10 (by have:=HDL.out;have:=HKK.out;have:=HKW.out;omega) (fun _ e=>by cases e)).upd HU11.out (by have:=HKW.out;omega) (fun _ e=>by cases e))
 have HM11:=Lib.hid ((HM9.out.upd hb10 (by have:=HDL.out;have:=HKK.out;have:=HKLT.out;omega)).upd HU11.out (by have:=HKLT.out;omega))
 have HO11:=Lib.hid ((HO9.out.upd hb10 (by have:=HDL.out;have:=HKK.out;have:=HKLT.out;omega)).kept HU11.out.grownK (by have:=HKLT.out;intro e;injection e with e;omega))
 have HKP:=Lib.hid (((HKP.out.keepB HB59.out).upd hb10 (fun k hk=>by have:=HDL.out;omega)).keepB (HU11.out.toBelow (Nat.le_trans (Nat.le_of_lt HKL9.out) hb10.size) (by omega)))
 have HB11:Hid (Upd (fun j=>j=D∨j=sb∨j=nb) w _):=Lib.hid (((Upd.below HB9.out).trans hb10).andB (HU11.out.toBelow (Nat.le_trans (Nat.le_of_lt HKL9.out) hb10.size) (by omega)) HKK.out)
 have HB511:Hid (Below K _ (w10.setCell ⟨K,2,none⟩ (.pointer (some ⟨F,0,none⟩)))):=Lib.hid (Below.refl _ _)
 have HF11:=Lib.hid (MG.updB ⟨hfs,hdk⟩ HU11.out (fun k hk=>by have:=HKL9.out;have:=HKK.out;have:=HDL.out;omega))
 have HL911:Hid (w9.heap.size≤w10.heap.size):=Lib.hid hb10.size
 clear k10 q10 f10 hb10 hfs hdk HMT HU11 HK9 HR9 HM9 HO9 HB9 HB59
 generalize w10.setCell ⟨K,2,none⟩ (.pointer (some ⟨F,0,none⟩))=w11 at *
 have HFL:Hid (F<w11.heap.size):=Lib.hid ((Array.getElem?_eq_some_iff.1 HF11.out.1.f).1)
 have HSM:Hid (w7.heap.size+1<w11.heap.size):=Lib.hid HM11.out.lt
 have m4:w11.cell? ⟨w7.heap.size+1,4,none⟩=some (.map (some w7.heap.size)):=by rw[HM11.out.cell];rfl
 have q11:=HKKC.out w11 _ 1 _ HK11.out (by decide) rfl
 have HMK:=Lib.hid (spmake_is m4 HO11.out)
 clear m4
 go_upto_region 14 with (go_at_call 31;refine HMK.out.mono ?_;rintro e12 w12 ⟨rfl,ho12,hi12,hg12⟩;have k12:=HK11.out.kept hg12 (by have:=HKLT.out;intro e;injection e with e;omega);have q12:=HKKC.out w12 _ 46 _ k12 (by decide) HC0.out.2.2.2.2.2.2.2.1;have f12:=k12.fz 46)
 have HU13:=Lib.hid (Upd.set w12 (b:=K) (i:=46) (.int .i64 1) (S:=fun k=>k=K) rfl)
 have HKL11:Hid (K<w11.heap.size):=Lib.hid HK11.out.lt
 have HK13:=Lib.hid (k12.set (i:=46) (by decide) (.int .i64 1))
 have HR13:=Lib.hid ((HR11.out.upd (Upd.grown hg12 (S:=fun k=>k=w7.heap.size) rfl) (by have:=HRLT.out;omega) (fun _ e=>by cases e)).upd HU13.out (by have:=HKW.out;omega) (fun _ e=>by cases e))
 have HM13:=Lib.hid ((HM11.out.kept hg12 (by intro e;injection e with e;omega)).upd HU13.out (by have:=HKLT.out;omega))
 have HO13:=Lib.hid (ho12.kept HU13.out.grownK (by have:=HKLT.out;intro e;injection e with e;omega))
 have HI13:=Lib.hid (hi12.kept HU13.out.grownK (by have:=HKL11.out;intro e;injection e with e;omega))
 have HB1113:=Lib.hid (((Below.refl K w11).grown hg12 (Nat.le_of_lt HKL11.out) (fun k hk=>by injection hk with hk;have:=HKLT.out;omega)).trans (HU13.out.toBelow (Nat.le_trans (Nat.le_of_lt HKL11.out) hg12.size) (by omega)))
 have HB13:=Lib.hid (HB11.out.andB HB1113.out HKK.out)
 have HB513:=Lib.hid (HB511.out.trans HB1113.out)
 have HF13:=Lib.hid ((HF11.out.updB (Upd.grown hg12 (S:=fun k=>k=w7.heap.size) rfl) (fun k hk=>by have:=HZM.out;have:=HKLT.out;have:=HKK.out;have:=HDL.out;omega)).updB HU13.out (fun k hk=>by have:=HKL9.out;have:=HKK.out;have:=HDL.out;omega))
 clear k12 q12 f12 ho12 hi12 hg12 HMK HU13 HK11 HR11 HM11 HO11 HB11 HB511 HB1113 q11 HF11
 generalize w12.setCell ⟨K,46,none⟩ (.int .i64 1)=w13 at *
 have HC2:=Lib.hid (HC0.out.2.2.2.2.2.2.2.2)
 have q56:=HKKC.out w13 _ 56 _ HK13.out (by decide) HC2.out.1
 have q57:=HKKC.out w13 _ 57 _ HK13.out (by decide) HC2.out.2.1
 have q58:=HKKC.out w13 _ 58 _ HK13.out (by decide) HC2.out.2.2.1
 have q59:=HKKC.out w13 _ 59 _ HK13.out (by decide) HC2.out.2.2.2.1
 have q60:=HKKC.out w13 _ 60 _ HK13.out (by decide) HC2.out.2.2.2.2.1
 have q61:=HKKC.out w13 _ 61 _ HK13.out (by decide) HC2.out.2.2.2.2.2.1
 have q62:=HKKC.out w13 _ 62 _ HK13.out (by decide) HC2.out.2.2.2.2.2.2.1
 have q63:=HKKC.out w13 _ 63 _ HK13.out (by decide) HC2.out.2.2.2.2.2.2.2.1
 have f56:=HK13.out.fz 56
 have f57:=HK13.out.fz 57
 have f58:=HK13.out.fz 58
 have f59:=HK13.out.fz 59
 have f60:=HK13.out.fz 60
 have f61:=HK13.out.fz 61
 have f62:=HK13.out.fz 62
 have f63:=HK13.out.fz 63
 have hkl:K<w13.heap.size:=HK13.out.lt
 have hkne:¬K=w13.heap.size:=by omega
 go_upto_region 19 with fail
 have HU14:Hid (Upd (fun k=>k=K) w13 ((((((((w13.setCell ⟨K,56,none⟩ (.int .i64 1)).setCell ⟨K,57,none⟩ (.int .i64 0)).setCell ⟨K,58,none⟩ (.int .i64 0)).setCell ⟨K,59,none⟩ (.slice none 0 0)).setCell ⟨K,60,none⟩ (.int .i64 127)).setCell ⟨K,61,none⟩ (.int .i64 0)).setCell ⟨K,62,none⟩ (.int .i64 0)).setCell ⟨K,63,none⟩ (.slice (some ⟨w13.heap.size,0,none⟩) 1 1))):=Lib.hid ((((((((Upd.set w13 (b:=K) (i:=56) (S:=fun k=>k=K) (.int .i64 1) rfl).trans (Upd.set (w13.setCell ⟨K,56,none⟩ (.int .i64 1)) (b:=K) (i:=57) (S:=fun k=>k=K) (.int .i64 0) rfl)).trans (Upd.set ((w13.setCell ⟨K,56,none⟩ (.int .i64 1)).setCell ⟨K,57,none⟩ (.int .i64 0)) (b:=K) (i:=58) (S:=fun k=>k=K) (.int .i64 0) rfl)).trans (Upd.set (((w13.setCell ⟨K,56,none⟩ (.int .i64 1)).setCell ⟨K,57,none⟩ (.int .i64 0)).setCell ⟨K,58,none⟩ (.int .i64 0)) (b:=K) (i:=59) (S:=fun k=>k=K) (.slice none 0 0) rfl)).trans (Upd.set ((((w13.setCell ⟨K,56,none⟩ (.int .i64 1)).setCell ⟨K,57,none⟩ (.int .i64 0)).setCell ⟨K,58,none⟩ (.int .i64 0)).setCell ⟨K,59,none⟩ (.slice none 0 0)) (b:=K) (i:=60) (S:=fun k=>k=K) (.int .i64 127) rfl)).trans (Upd.set (((((w13.setCell ⟨K,56,none⟩ (.int .i64 1)).setCell ⟨K,57,none⟩ (.int .i64 0)).setCell ⟨K,58,none⟩ (.int .i64 0)).setCell ⟨K,59,none⟩ (.slice none 0 0)).setCell ⟨K,60,none⟩ (.int .i64 127)) (b:=K) (i:=61) (S:=fun k=>k=K) (.int .i64 0) rfl)).trans (Upd.set ((((((w13.setCell ⟨K,56,none⟩ (.int .i64 1)).setCell ⟨K,57,none⟩ (.int .i64 0)).setCell ⟨K,58,none⟩ (.int .i64 0)).setCell ⟨K,59,none⟩ (.slice none 0 0)).setCell ⟨K,60,none⟩ (.int .i64 127)).setCell ⟨K,61,none⟩ (.int .i64 0)) (b:=K) (i:=62) (S:=fun k=>k=K) (.int .i64 0) rfl)).trans (Upd.set (((((((w13.setCell ⟨K,56,none⟩ (.int .i64 1)).setCell ⟨K,57,none⟩ (.int .i64 0)).setCell ⟨K,58,none⟩ (.int .i64 0)).setCell ⟨K,59,none⟩ (.slice none 0 0)).setCell ⟨K,60,none⟩ (.int .i64 127)).setCell ⟨K,61,none⟩ (.int .i64 0)).setCell ⟨K,62,none⟩ (.int .i64 0)) (b:=K) (i:=63) (S:=fun k=>k=K) (.slice (some ⟨w13.heap.size,0,none⟩) 1 1) rfl))
 have HK14:=Lib.hid ((((((((HK13.out.set (i:=56) (by decide) (.int .i64 1)).set (i:=57) (by decide) (.int .i64 0)).set (i:=58) (by decide) (.int .i64 0)).set (i:=59) (by decide) (.slice none 0 0)).set (i:=60) (by decide) (.int .i64 127)).set (i:=61) (by decide) (.int .i64 0)).set (i:=62) (by decide) (.int .i64 0)).set (i:=63) (by decide) (.slice (some ⟨w13.heap.size,0,none⟩) 1 1))
 have hal:=Go.Joins.below_alloc1 ((((((((w13.setCell ⟨K,56,none⟩ (.int .i64 1)).setCell ⟨K,57,none⟩ (.int .i64 0)).setCell ⟨K,58,none⟩ (.int .i64 0)).setCell ⟨K,59,none⟩ (.slice none 0 0)).setCell ⟨K,60,none⟩ (.int .i64 127)).setCell ⟨K,61,none⟩ (.int .i64 0)).setCell ⟨K,62,none⟩ (.int .i64 0)).setCell ⟨K,63,none⟩ (.slice (some ⟨w13.heap.size,0,none⟩) 1 1)) (.cells #[.int .i64 1] 3)
 have HK15:=Lib.hid (HK14.out.keep hal)
 have HR15:=Lib.hid ((HR13.out.upd HU14.out (by have:=HKW.out;omega) (fun _ e=>by cases e)).keep hal)
 have HM15:=Lib.hid ((HM13.out.upd HU14.out (by have:=HKLT.out;omega)).keep hal)
 have HO15:=Lib.hid ((HO13.out.kept HU14.out.grownK (by have:=HKLT.out;intro e;injection e with e;omega)).kept (Below.grownN hal none) (by simp))
 have HI15:=Lib.hid ((HI13.out.kept HU14.out.grownK (by have:=HKL11.out;intro e;injection e with e;omega)).kept (Below.grownN hal none) (by simp))
 have HF15:=Lib.hid ((HF13.out.updB HU14.out (fun k hk=>by have:=HKL9.out;have:=HKK.out;have:=HDL.out;omega)).keep hal)
 have HW15:Hid (Row ((((((((((w13.setCell ⟨K,56,none⟩ (.int .i64 1)).setCell ⟨K,57,none⟩ (.int .i64 0)).setCell ⟨K,58,none⟩ (.int .i64 0)).setCell ⟨K,59,none⟩ (.slice none 0 0)).setCell ⟨K,60,none⟩ (.int .i64 127)).setCell ⟨K,61,none⟩ (.int .i64 0)).setCell ⟨K,62,none⟩ (.int .i64 0)).setCell ⟨K,63,none⟩ (.slice (some ⟨w13.heap.size,0,none⟩) 1 1)).alloc (.cells #[.int .i64 1] 3))) w13.heap.size 3 #[.int .i64 1]):=Lib.hid (by
    have:=row_new ((((((((w13.setCell ⟨K,56,none⟩ (.int .i64 1)).setCell ⟨K,57,none⟩ (.int .i64 0)).setCell ⟨K,58,none⟩ (.int .i64 0)).setCell ⟨K,59,none⟩ (.slice none 0 0)).setCell ⟨K,60,none⟩ (.int .i64 127)).setCell ⟨K,61,none⟩ (.int .i64 0)).setCell ⟨K,62,none⟩ (.int .i64 0)).setCell ⟨K,63,none⟩ (.slice (some ⟨w13.heap.size,0,none⟩) 1 1)) 3 #[.int .i64 1]
    simpa only[size_setCell1] using this)
 have HW13:Hid (w11.heap.size<w13.heap.size):=Lib.hid HI13.out.lt
 have HB1315:=Lib.hid ((HU14.out.toBelow (B:=K) (Nat.le_of_lt hkl) (by omega)).trans (hal.mono (Nat.le_of_lt HK14.out.lt)))
 have HB15:=Lib.hid (HB13.out.andB HB1315.out HKK.out)
 have HB515:=Lib.hid (HB513.out.trans HB1315.out)
 clear hal HU14 HK14 q56 q57 q58 q59 q60 q61 q62 q63 f56 f57 f58 f59 f60 f61 f62 f63 HK13 HR13 HM13 HO13 HI13 HB13 HB513 HB1315 hkne HF13
 generalize (((((((((w13.setCell ⟨K,56,none⟩ (.int .i64 1)).setCell ⟨K,57,none⟩ (.int .i64 0)).setCell ⟨K,58,none⟩ (.int .i64 0)).setCell ⟨K,59,none⟩ (.slice none 0 0)).setCell ⟨K,60,none⟩ (.int .i64 127)).setCell ⟨K,61,none⟩ (.int .i64 0)).setCell ⟨K,62,none⟩ (.int .i64 0)).setCell ⟨K,63,none⟩ (.slice (some ⟨w13.heap.size,0,none⟩) 1 1)).alloc (.cells #[.int .i64 1] 3))=w15 at *
 have q4:=HKKC.out w15 _ 4 _ HK15.out (by decide) rfl
 have HAD:=Lib.hid (add1_is HR15.out)
 go_wp2_with (go_at_call 32;refine HAD.out.mono ?_;rintro e16 w16 ⟨rfl,hr16,hu16⟩;have HR16:=Lib.hid hr16;have HU16:=Lib.hid hu16;clear hr16 hu16)
 go_ret2
 obtain⟨T,cc,hrun,hT⟩:=HR16.out
 have h2:=HKW.out
 have h3:=HRLT.out
 have HZR:Hid (w5.heap.size<w7.heap.size):=HRLT
 have h4:w7.heap.size+1<w11.heap.size:=HSM.out
 have h5:w11.heap.size<w15.heap.size:=HI15.out.lt
 have hKU:Below K w15 w16:=HU16.out.toBelow (Nat.le_of_lt HK15.out.lt) (by omega)
 have hF16:=HF15.out.updB HU16.out (fun k hk=>by have:=HZM.out;have:=HZR.out;have:=HKW.out;have:=HKK.out;have:=HDL.out;omega)
 refine⟨K,_,_,_,_,_,_,_,_,_,rfl,⟨HKP.out.keepB (HB515.out.trans hKU),HK15.out.upd HU16.out (by omega),rfl,HC0.out.2.2.1,rfl,HC0.out.2.2.2.2.1,HC0.out.2.2.2.2.2.1,HC0.out.2.2.2.2.2.2.1,rfl,fun j hj=>?_,?_,⟨_,HM15.out.upd HU16.out (by omega)⟩,HO15.out.kept HU16.out.grownK (by intro e;injection e with e;omega),HI15.out.kept HU16.out.grownK (by intro e;injection e with e;omega),⟨T,cc,hrun,by omega⟩,by omega,fun j hj hj1 hj2=>?_,⟨rfl,rfl,rfl,rfl,rfl,rfl,rfl⟩,⟨_,rfl,HW15.out.upd HU16.out (by have:=HW13.out;have:=HZR.out;omega),HW13.out⟩⟩,⟨_,_,_,_,_,_,_,_,_,_,rfl,hF16,HZM.out,HFL.out⟩,HB15.out.andB hKU HKK.out⟩
 ·have h1:=HC1.out (65+j) (by omega)
  simp only[upV]
  rw[if_neg (by omega),if_neg (by omega),if_neg (by omega),if_neg (by omega),if_neg (by omega),if_neg (by omega),if_neg (by omega),if_neg (by omega),if_neg (by omega),if_neg (by omega),if_neg (by omega),if_neg (by omega),h1]
 ·exact HC2.out.2.2.2.2.2.2.2.2
 ·have h1:=HC1.out j hj
  simp only[upV]
  rw[if_neg (by omega),if_neg (by omega),if_neg (by omega),if_neg (by omega),if_neg (by omega),if_neg (by omega),if_neg (by omega),if_neg (by omega),if_neg (by omega),if_neg (by omega),if_neg (by omega),if_neg (by omega),h1]
end
section
variable {w w':World} {D sb nb S:Nat} {wv:Value} {s f:List Int} {wc:List WR}
theorem DW.putS0 (h:DW w D sb nb wv S s f wc) {k:Nat}(hk:k<S) {l:List Int}(hl:l.length=64):DW (w.setRow sb ((putS s k l).map u8V).toArray) D sb nb wv S (putS s k l) f wc:=by
 have u:Upd (fun b=>b=sb) w (w.setRow sb ((putS s k l).map u8V).toArray):=Upd.setRow w _ rfl
 have kD:∀ {o v},w.cell? ⟨D,o,none⟩=some v→(w.setRow sb ((putS s k l).map u8V).toArray).cell? ⟨D,o,none⟩=some v:=fun hc=>(u.cell h.dk.lt h.dk.n1).trans hc
 have ho:=u.owns h.ow (fun g hg e=>h.dk.o1 (by rw[hg,e]))
 exact⟨⟨kD h.dk.c0,kD h.dk.c1,kD h.dk.c2,kD h.dk.c3,fun j=>(u.frozen h.dk.lt h.dk.n1).trans (h.dk.fz j),Nat.lt_of_lt_of_le h.dk.lt u.size,h.dk.sB.setRow _,h.dk.nB.upd u (fun e=>h.dk.n3 e.symm),putS_len h.dk.ls hk hl,h.dk.lf,⟨_,ho⟩,h.dk.n1,h.dk.n2,h.dk.n3,h.dk.o0,h.dk.o1,h.dk.o2,h.dk.S0,h.dk.S1⟩,ho,h.ok.upd u (fun x hx j e q=>((h.ok x hx).2.2 j e).1 (.inr (.inl q))),h.sc⟩
theorem wrC_get:∀(l:List WR) {i j:Nat} {x:WR},l[i]?=some x→j<2→(l.flatMap wrC)[i*2+j]?=(wrC x)[j]?
 | [],i,j,x,h,_=>by simp at h
 | y::l,0,j,x,h,hj=>by
  simp only[List.getElem?_cons_zero,Option.some.injEq] at h
  subst h
  rw[List.flatMap_cons,List.getElem?_append_left (by simp[wrC];omega),Nat.zero_mul,Nat.zero_add]
 | y::l,i+1,j,x,h,hj=>by
  rw[List.getElem?_cons_succ] at h
  rw[List.flatMap_cons,List.getElem?_append_right (by simp[wrC];omega)]
  rw[show (i+1)*2+j-(wrC y).length=i*2+j by simp[wrC];omega]
  exact wrC_get l h hj
theorem DW.rows (h:DW w D sb nb wv S s f wc):(wc=[]∧∃a c,wv=.slice a 0 c)∨∃g cap,wv=.slice (some ⟨g,0,none⟩) wc.length cap∧wc.length≤cap∧cap≤maxLen∧∀i x,wc[i]?=some x→w.cell? ⟨g,i*2,none⟩=some (.int .i64 x.n)∧w.cell? ⟨g,i*2+1,none⟩=some x.v:=by
 have ho:=h.ow
 by_cases e:wc=[]
 ·left
  obtain⟨a,c,hv⟩:=own_form ho
  rw[e] at hv
  exact⟨e,a,c,hv⟩
 ·right
  rcases ho.2 with ⟨_,hn⟩|⟨g,c,cur,he,hb,hg,hnc,hcm,hcs,ht⟩
  ·exact absurd (List.length_eq_zero_iff.1 hn) e
  ·refine⟨g,c,he,hnc,hcm,fun i x hx=>?_⟩
   have hi:i<wc.length:=(List.getElem?_eq_some_iff.1 hx).1
   have k:∀j,j<2→w.cell? ⟨g,i*2+j,none⟩=(wrC x)[j]?:=fun j hj=>by
    rw[cell_of_row w g (i*2+j) _ _ (0,0) hg,← wrC_get wc hx hj,← ht,List.getElem?_take,if_pos (by omega),Array.getElem?_toList]
   exact⟨k 0 (by decide),k 1 (by decide)⟩
attribute [local go_sem ↓] copyB_eq
theorem crash_is (h:DW w D sb nb wv 256 s f wc)(hm:wc.length≤1000) {kv:Value} {kl:List Bool}(hk:At Value.bool false w kv kl)(hkb:kl≠[]→∀j,kv.ownBlock=some j→¬(j=D∨j=sb∨j=nb)):Calls Tryz.prog 19 #[.pointer (some ⟨D,0,none⟩),kv] w fun e w'=>e=.returned (.tuple #[])∧(∃s',Dk w' D sb nb (.slice none 0 0) 0 256 s' s'∧∀p,p<256→(∀y∈wc,y.n≠p)→sect s' p=sect s p)∧Upd (fun j=>j=D∨j=sb∨j=nb) w w':=by
 have HH:=Lib.hid h
 have HK:=Lib.hid hk
 have HKB:=Lib.hid hkb
 obtain⟨ka,kc,rfl,hkl,hkm,-⟩:=hk
 have hc2:=h.dk.c2
 obtain⟨m,hmm⟩:∃m,m=wc.length:=⟨_,rfl⟩
 have HM:=Lib.hid (And.intro hmm hm)
 obtain⟨va,vc,hwv⟩:∃a c,wv=.slice a m c:=by obtain⟨a,c,e⟩:=own_form h.ow;exact⟨a,c,by rw[hmm];exact e⟩
 rw[hwv] at hc2
 have hm1:(m:Int)≤1000:=by omega
 have HWV:=Lib.hid hwv
 obtain⟨kn,hkn⟩:∃kn,kn=kl.length:=⟨_,rfl⟩
 rw[← hkn]
 have HKN:=Lib.hid hkn
 have hknm:kn≤maxLen:=by omega
 unfold maxLen at hknm
 rw[← hkn] at hkl
 clear h hkb hmm hm hwv hkn
 go_enter Tryz.func19,Tryz.ntmps19
 go_wp2_with fail
 go_loopw [11] (fun iv wr=>∃(i:Nat) (s1:List Int),i≤m∧iv=.int .i64 i∧Hid (DW wr D sb nb wv 256 s1 f wc)∧Hid (∀p,p<256→(∀y∈wc,y.n≠p)→sect s1 p=sect s p)∧Hid (Upd (fun j=>j=sb) w wr)) (fun iv _=>m-(intOf iv).toNat)
 case atStart=>exact⟨0,s,by omega,by simp,HH,Lib.hid (fun _ _ _=>rfl),Lib.hid (Upd.refl _ _)⟩
 case round=>
  obtain⟨i,s1,hi,rfl,HD,HS,HU⟩:=hrel
  by_cases hlt:i<m
  ·have hji:(i:Int)<m:=by omega
   obtain⟨x,hx⟩:∃x,wc[i]?=some x:=⟨_,List.getElem?_eq_getElem (by have:=HM.out.1;omega)⟩
   have hxm:=List.mem_of_getElem? hx
   rcases HD.out.rows with ⟨e,_⟩|⟨g,cap,he,hn1,hn2,hcl⟩
   ·rw[e] at hx;cases hx
   have hva:=HWV.out.symm.trans he
   injection hva with e1 e2 e3
   subst e1 e3
   obtain⟨k0,k1⟩:=hcl i x hx
   obtain⟨xa,x64,xb⟩:=HD.out.ok x hxm
   have hxa:=xa
   obtain⟨va',vc',hve,-⟩:=hxa
   rw[x64] at hve
   rw[hve] at k1
   have xn:=HD.out.sc x hxm
   have hal:=Go.Joins.below_alloc1 wr (.cells #[.int .i64 x.n,.slice va' 64 vc'] 107)
   have HD1:=Lib.hid (HD.out.keep hal)
   have HR1:=Lib.hid (row_new wr 107 #[.int .i64 x.n,.slice va' 64 vc'])
   have HU1:Hid (Upd (fun j=>j=sb) w (wr.alloc (.cells #[.int .i64 x.n,.slice va' 64 vc'] 107))):=Lib.hid (HU.out.trans (Upd.below hal))
   have HX:=Lib.hid (And.intro hxm (And.intro x64 (And.intro hve xa)))
   have HXB:=Lib.hid xb
   obtain⟨pn,hpn⟩:∃pn,pn=wr.heap.size:=⟨_,rfl⟩
   rw[← hpn] at HR1
   have HKA:Hid (kl=[]∨∃b o,ka=some ⟨b,o,none⟩∧∀i,i<kl.length→(wr.alloc (.cells #[.int .i64 x.n,.slice va' 64 vc'] 107)).cell? ⟨b,o+i,none⟩=some (.bool (kl.getD i false))):=Lib.hid (by
        obtain⟨a',c',e,q1,q2,q3⟩:=HK.out
        injection e with e1 e2 e3
        rcases q3 with q3|⟨b,o,q4,q5,q6⟩
        · exact .inl q3
        · right
          refine⟨b,o,e1.trans q4,fun i hi=>(HU1.out.cell q5 (fun e=>?_)).trans (q6 i hi)⟩
          exact HKB.out (fun e=>by rw[e] at hi;simp at hi) b (by rw[e1.trans q4];rfl) (.inr (.inl e)))
   clear xa xb hxm hcl x64 hve hal he
   go_upto_region 3 with fail
   rw[← hpn]
   clear hpn k0 k1
   generalize wr.alloc (.cells #[.int .i64 x.n,.slice va' 64 vc'] 107)=w2 at *
   have d0:w2.cell? ⟨pn,0,none⟩=some (.int .i64 x.n):=by rw[HR1.out.cell];rfl
   have d1:w2.cell? ⟨pn,1,none⟩=some (.slice va' 64 vc'):=by rw[HR1.out.cell];rfl
   have c0:w2.cell? ⟨D,0,none⟩=some (.slice (some ⟨sb,0,none⟩) 16384 16384):=HD1.out.dk.c0
   by_cases hkb:i<kn∧kl.getD i false=true
   ·obtain⟨hk1,hk2⟩:=hkb
    have hk1i:(i:Int)<kn:=by omega
    rcases HKA.out with q|⟨b,o,rfl,hcc⟩
    ·rw[q] at HKN;have:=HKN.out;simp at this;omega
    have kc1:=hcc i (by have:=HKN.out;omega)
    rw[hk2] at kc1
    have hvc:∃b2 o2,va'=some ⟨b2,o2,none⟩∧∀j,j<x.l.length→w2.drew.cell? ⟨b2,o2+j,none⟩=some (u8V (x.l.getD j 0)):=by
     obtain⟨xa,_,_⟩:=HD1.out.ok x HX.out.1
     obtain⟨a',c',e,q1,q2,q3⟩:=xa
     rw[HX.out.2.2.1] at e
     injection e with e1 e2 e3
     rcases q3 with q3|⟨b,o,q4,q5,q6⟩
     ·have:=HX.out.2.1;rw[q3] at this;cases this
     ·exact⟨b,o,e1.trans q4,q6⟩
    obtain⟨b2,o2,rfl,hvc⟩:=hvc
    have hcp:=run_copyB (w:=w2.drew) (g:=sb) (o:=x.n*64) (dL:=16384-x.n*64) (dC:=16384-x.n*64) (sL:=64) (sC:=vc') (cs:=x.l) HD1.out.dk.sB (by rw[HX.out.2.1];exact(Nat.min_eq_left (by omega)).symm) hvc (by rw[HX.out.2.1,HD1.out.dk.ls];omega)
    rw[HX.out.2.1] at hcp
    change (copyB _).run _ _=.ok _ (w2.drew.setRow sb ((putS s1 x.n x.l).map u8V).toArray) at hcp
    have HD2:Hid (DW (w2.drew.setRow sb ((putS s1 x.n x.l).map u8V).toArray) D sb nb (.slice (some ⟨g,0,none⟩) m vc) 256 (putS s1 x.n x.l) f wc):=Lib.hid (by
          have h1:=(HD1.out.keep (Below.refl _ _).drew).putS0 xn HX.out.2.1
          rw[HWV.out] at h1
          exact h1)
    have HU2:Hid (Upd (fun j=>j=sb) w (w2.drew.setRow sb ((putS s1 x.n x.l).map u8V).toArray)):=Lib.hid ((HU1.out.trans (Upd.drew _)).trans (Upd.setRow _ _ rfl))
    have HS2:Hid (∀p,p<256→(∀y∈wc,y.n≠p)→sect (putS s1 x.n x.l) p=sect s p):=Lib.hid (fun p hp hn=>by
          rw[sect_other HD1.out.dk.ls xn hp HX.out.2.1 (fun e=>hn x HX.out.1 e.symm)]
          exact HS.out p hp hn)
    generalize w2.drew.setRow sb ((putS s1 x.n x.l).map u8V).toArray=w3 at *
    have b1:(x.n:Int)*64+64≤16384:=by omega
    have b0:(0:Int)≤(x.n:Int)*64:=by omega
    have b2':¬16384=x.n*64:=by omega
    have e0:w2.drew.cell? ⟨pn,0,none⟩=some (.int .i64 x.n):=d0
    have e1':w2.drew.cell? ⟨pn,1,none⟩=some (.slice (some ⟨b2,o2,none⟩) 64 vc'):=d1
    have e2':w2.drew.cell? ⟨D,0,none⟩=some (.slice (some ⟨sb,0,none⟩) 16384 16384):=c0
    clear hvc hcc
    go_upto_region 4 with fail
    go_region
    go_wp2_with fail
    go_roundw
    case rel=>exact⟨i+1,_,by omega,by go_num,by rw[HWV.out];exact HD2,HS2,HU2⟩
    case measure=>simp[intOf];omega
   ·have HD1':=HD1
    by_cases hk1:i<kn
    ·have hk1i:(i:Int)<kn:=by omega
     have hkf:kl.getD i false=false:=by
      rcases e:kl.getD i false with _|_
      ·rfl
      ·exact absurd ⟨hk1,e⟩ hkb
     rcases HKA.out with q|⟨b,o,rfl,hcc⟩
     ·rw[q] at HKN;have:=HKN.out;simp at this;omega
     have kc1:=hcc i (by have:=HKN.out;omega)
     rw[hkf] at kc1
     clear hcc
     go_wp2_with fail
     go_roundw
     case rel=>exact⟨i+1,_,by omega,by go_num,HD1,HS,HU1⟩
     case measure=>simp[intOf];omega
    ·have hk1i:¬(i:Int)<kn:=by omega
     go_wp2_with fail
     go_roundw
     case rel=>exact⟨i+1,_,by omega,by go_num,HD1,HS,HU1⟩
     case measure=>simp[intOf];omega
  ·obtain rfl:i=m:=by omega
   have hlti:¬(i:Int)<i:=by omega
   have c0:wr.cell? ⟨D,0,none⟩=some (.slice (some ⟨sb,0,none⟩) 16384 16384):=HD.out.dk.c0
   have c1:wr.cell? ⟨D,1,none⟩=some (.slice (some ⟨nb,0,none⟩) 16384 16384):=HD.out.dk.c1
   go_upto_region 6 with fail
   have hls:=HD.out.dk.ls
   have hlf:=HD.out.dk.lf
   have hcp:=run_copyB (w:=wr.drew) (g:=nb) (o:=0) (dL:=16384) (dC:=16384) (sL:=16384) (sC:=16384) (sb:=sb) (so:=0) (cur:=f) (cs:=s1) HD.out.dk.nB (by rw[hls];rfl) (fun i hi=>by rw[Nat.zero_add];exact HD.out.dk.sB.cell hi) (by rw[hls,hlf];decide)
   rw[hls,show splice f 0 s1=s1 by simp[splice];omega] at hcp
   change (copyB _).run _ _=.ok (.int .i64 16384) _ at hcp
   have u6:Upd (fun j=>j=nb) wr (wr.drew.setRow nb (s1.map u8V).toArray):=(Upd.drew _).trans (Upd.setRow _ _ rfl)
   have hnB:BK (wr.drew.setRow nb (s1.map u8V).toArray) nb s1:=(show BK wr.drew nb f from HD.out.dk.nB).setRow _
   have HU6:=Lib.hid (And.intro u6 hnB)
   have c2':(wr.drew.setRow nb (s1.map u8V).toArray).cell? ⟨D,2,none⟩=some wv:=(u6.cell HD.out.dk.lt HD.out.dk.n2).trans HD.out.dk.c2
   have c3':(wr.drew.setRow nb (s1.map u8V).toArray).cell? ⟨D,3,none⟩=some (.int .i64 (-1)):=(u6.cell HD.out.dk.lt HD.out.dk.n2).trans HD.out.dk.c3
   have f2':∀j,(wr.drew.setRow nb (s1.map u8V).toArray).frozen? ⟨D,j,none⟩=false:=fun j=>(u6.frozen HD.out.dk.lt HD.out.dk.n2).trans (HD.out.dk.fz j)
   have f2:=f2' 2
   have f3:=f2' 3
   have HF2:=Lib.hid f2'
   clear u6 hnB hls hlf f2'
   generalize wr.drew.setRow nb (s1.map u8V).toArray=w6 at *
   go_region
   go_wp2_with fail
   have h:=HD.out.dk
   have u6:=HU6.out.1
   have q0:w6.cell? ⟨D,0,none⟩=some (.slice (some ⟨sb,0,none⟩) (256*64) (256*64)):=(u6.cell h.lt h.n2).trans h.c0
   have q1:w6.cell? ⟨D,1,none⟩=some (.slice (some ⟨nb,0,none⟩) (256*64) (256*64)):=(u6.cell h.lt h.n2).trans h.c1
   have u7:Upd (fun j=>j=D) w6 ((w6.setCell ⟨D,2,none⟩ (.slice none 0 0)).setCell ⟨D,3,none⟩ (.int .i64 (-1))):=(Upd.set (S:=fun j=>j=D) _ _ rfl).trans (Upd.set (S:=fun j=>j=D) _ _ rfl)
   (try simp only[Exit.inBlock,Exit.then]);first|(refine bodyPost_ret (results_none rfl _ _ _) rfl ?_)|(refine bodyPost_end (results_none rfl _ _ _) rfl ?_)
   refine⟨rfl,⟨s1,⟨set_off (by decide) (set_off (by decide) q0),set_off (by decide) (set_off (by decide) q1),set_off (by decide) (set_same c2'),set_same (set_off (by decide) c3'),fun j=>by rw[World.frozen?_setCell,World.frozen?_setCell];exact HF2.out j,Nat.lt_of_lt_of_le h.lt (Nat.le_trans u6.size u7.size),(h.sB.upd u6 h.n3).upd u7 (fun e=>h.n1 e.symm),HU6.out.2.upd u7 (fun e=>h.n2 e.symm),h.ls,h.ls,⟨[],World.ownsRow_nil _ _ _ _⟩,h.n1,h.n2,h.n3,by simp[Value.ownBlock],by simp[Value.ownBlock],by simp[Value.ownBlock],h.S0,h.S1⟩,HS.out⟩,?_⟩
   exact((HU.out.mono (fun j _ e=>.inr (.inl e))).trans (u6.mono (fun j _ e=>.inr (.inr e)))).trans (u7.mono (fun j _ e=>.inl e))
end
end Go.Proofs.YtfkepfncgdlgoaaGreatDoor
