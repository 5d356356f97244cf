/- The walk of fs's fill at a block of bytes, of a node that has one sector. Printed by gen_gae.py. fs.Make of "g" in a directory where "f" is. Printed by gen_gaf.py. fs.add and fs.Make of "g". Printed by gen_gag.py. -/
import Derived.Test.YtfkepfncgdlgoaaGreatDoorFsR
import Derived.Test.YtfkepfncgdlgoaaGreatDoorGaD
import Derived.Test.YtfkepfncgdlgoaaGreatDoorDOk
import Derived.Test.YtfkepfncgdlgoaaGreatDoorPathA
namespace Go.Proofs.YtfkepfncgdlgoaaGreatDoor
open Go.RowKit Go.Maps
set_option linter.unusedVariables false
set_option linter.unusedSimpArgs false
set_option maxRecDepth 100000
set_option maxHeartbeats 2000000
section
variable {w0 w:World} {c:FC} {x:FM} {t:Nat} {y:TM}
attribute [local go_sem ↓] ld_ino st_ino2 mkB_eq copyB_eq apI8_eq
theorem fillP_is (h:TX w0 w c x t y) {i q:Nat}(hi:i<32)(hps:(y.nd i).ps=[(q:Int)])(hq0:q≠0)(hq1:q<256) {n:Int}(hn:n=i+1) {v:Value} {z:List Int}(hz:At (Value.int .u8) 0 w v z)(hz1:1≤z.length)(hz64:z.length≤64)(hzf:∀j,v.ownBlock=some j→¬tMut t y j)(hnp:y.np<1000)(hnb:y.nb<1000) :
  Calls Tryz.prog 207 #[.pointer (some ⟨t,0,none⟩),.int .i64 n,v] w fun e w'=>e=.returned (.tuple #[])∧FillT w0 c x t y i q y.G z w'∧Upd (tMut t y) w w':=by
 have HH:=Lib.hid h
 obtain⟨G',ho,hG'⟩:∃G',Own y.G (q:Int) q G'∧G'=y.G:=⟨y.G,.inr ⟨by omega,rfl,hq1,rfl⟩,rfl⟩
 rw[← hG']
 clear hG' hq0 hq1
 have HX:=Lib.hid (And.intro hi (And.intro hps (And.intro ho (And.intro hz64 (And.intro hzf (And.intro hnp hnb))))))
 have HZ:=Lib.hid hz
 have HN:=Lib.hid (node_is h hi hn)
 have HNN:=Lib.hid hn
 obtain⟨az,cz,rfl,lz,mz,-⟩:=hz
 obtain⟨L,hL⟩:∃L,L=z.length:=⟨_,rfl⟩
 rw[← hL] at hz1 hz64 lz ⊢
 have HL:=Lib.hid hL
 have HBL:=Lib.hid (fun w=>blocks_is w L hz1 (by omega))
 have e1:(L-1) / 64+1=1:=by omega
 rw[e1] at HBL
 have mcz:(cz:Int)≤9223372036854775807:=by unfold maxLen at mz;omega
 obtain⟨N,hNd⟩:∃N,N=y.nd i:=⟨_,rfl⟩
 rw[← hNd] at HN
 have HD:=Lib.hid hNd
 have hsn:=fun w=>st0_new w (T:=120) (c:=#[.int .i64 0,.int .i64 0,.int .i64 0,.int .i64 0,.int .i64 0,.int .i64 0,.int .i64 0,.slice none 0 0]) (cs:=ndA N) rfl (by rw[ndA_size];kernel_rfl) (ndA_one N (by rw[hNd];exact ip_one (h.ps i hi)))
 clear h hi hps ho hzf hnp hnb hL hNd e1 hn
 go_enter Tryz.func207,Tryz.ntmps207
 go_upto_region 1 with (go_at_call 116;refine HN.out.mono ?_;rintro e1 w1 ⟨rfl,hb1⟩;have HB1:=Lib.hid hb1;clear hb1)
 have hr2:=row_new w1 120 (ndA N)
 have hb2:Below w.heap.size w (w1.alloc (.cells (ndA N) 120)):=HB1.out.trans ((Go.Joins.below_alloc1 w1 _).mono HB1.out.size)
 have HNK:Hid (w.heap.size≤w1.heap.size):=Lib.hid HB1.out.size
 clear hsn HN HB1
 generalize w1.alloc (.cells (ndA N) 120)=w2 at *
 generalize w1.heap.size=nbk at *
 have hA2:At (Value.int .i64) 0 w2 N.pv [(q:Int)]:=by
  have:=(HH.out.ps i HX.out.1).a.keep hb2
  rw[HX.out.2.1,← HD.out] at this
  exact this
 have c7:w2.cell? ⟨nbk,7,none⟩=some N.pv:=by rw[hr2.cell];rfl
 have HB2:=Lib.hid hb2
 have HR2:=Lib.hid hr2
 have hbl:=HBL.out w2
 have HCL:=Lib.hid (cloneI_is (by simp) hA2)
 clear hb2 hr2
 obtain⟨ap,cp,hpv,-,mcp,-⟩:=hA2
 change N.pv=.slice ap 1 cp at hpv
 rw[hpv] at c7
 have HCL:Hid (Calls Tryz.prog 127 #[.slice ap 1 cp] w2 (CloneI [(q:Int)] w2)):=Lib.hid (by have:=HCL.out;rw[hpv] at this;exact this)
 have mcp':(cp:Int)≤9223372036854775807:=by unfold maxLen at mcp;omega
 go_upto_region 3 with (first|(go_at_call 128;(with_reducible refine hbl.mono ?_);rintro e2 w3 ⟨rfl,rfl⟩;clear hbl)|(go_at_call 127;(with_reducible refine HCL.out.mono ?_);rintro e3 w3 ⟨v3,rfl,ho3,hb3⟩;obtain⟨p3,c3,rfl⟩:=own_form ho3))
 have HB3:=Lib.hid (HB2.out.trans (hb3.mono HB2.out.size))
 have HR3:=Lib.hid (HR2.out.keep hb3)
 have HZ3:Hid (w2.heap.size≤w3.heap.size∧w.heap.size≤w2.heap.size∧nbk<w2.heap.size):=Lib.hid ⟨hb3.size,HB2.out.size,HR2.out.lt⟩
 clear HB2 HR2 c7 HCL hb3
 obtain⟨g3,rfl,hg40,hg41,hg42,hg43⟩:=own_block ho3 (by simp)
 have HO4:=Lib.hid ho3
 have HG4:=Lib.hid (And.intro hg40 (And.intro hg41 (And.intro hg42 hg43)))
 have mc4:(c3:Int)≤9223372036854775807:=by unfold maxLen at hg43;omega
 have i31:(1:Int)≤c3:=by have:1≤c3:=hg42;omega
 have z7:=HR3.out.fz 7
 have z4:=HR3.out.fz 4
 have y7:=HR3.out.cell 7
 have y4:=HR3.out.cell 4
 have HB4:=HB3
 have HR4:=HR3
 clear ho3 hg40 hg41 hg42 hg43
 go_wp2_with fail
 refine wp_loop_rounds 1 ?_
 rw[rounds_succ]
 go_wp2_with fail
 refine wp_loop_rounds 1 ?_
 rw[rounds_succ]
 go_upto_region 9 with fail
 obtain⟨w5,hw5⟩:∃w5,w5=(w3.setCell ⟨nbk,7,none⟩ (.slice (some ⟨g3,0,none⟩) 1 c3)).setCell ⟨nbk,4,none⟩ (.int .i64 (L:Int)):=⟨_,rfl⟩
 rw[← hw5]
 have hu5:Upd (fun j=>j=nbk) w3 w5:=by rw[hw5];exact(Upd.set w3 (b:=nbk) (i:=7) _ (S:=fun j=>j=nbk) rfl).trans (Upd.set _ (b:=nbk) (i:=4) _ rfl)
 have HR5:Hid (Row w5 nbk 120 (ndA { N with sz:=L,pv:=.slice (some ⟨g3,0,none⟩) 1 c3,ps:=[(q:Int)] })):=Lib.hid (by
    have q1:=HR4.out.setRow ((ndA N).setIfInBounds 7 (.slice (some ⟨g3,0,none⟩) 1 c3))
    rw[hw5,HR4.out.setCell,q1.setCell]
    exact q1.setRow _)
 have HF:Hid (∀wx y',Upd (tMut t y) w wx→y'.nd=y.nd→y'.pt=y.pt→tMut t y'=tMut t y→TX w0 wx c x t y'→∀j w',w.heap.size≤j→Upd (fun k=>k=j) wx w'→TX w0 w' c x t y'):=Lib.hid (fun wx y' _ e1 e2 e3 hT j w' hj hu=>hT.far hu (fun k ek=>by
    subst ek
    refine⟨Nat.le_trans HH.out.bl.size hj,fun e=>?_,fun i hi e=>?_,fun p s e=>?_⟩
    · rw[e3] at e;have:=(HH.out.mlt e).2;omega
    · rw[e1] at e;have:=(HH.out.ps i hi).lt k e;omega
    · rw[e2] at e;have:=HH.out.ltP e;omega))
 have HT5:=Lib.hid (HF.out w3 y (Upd.below HB4.out) rfl rfl rfl (HH.out.keep HB4.out) nbk w5 HNK.out hu5)
 have hgn:g3≠nbk:=by have:=HG4.out.1;have:=HZ3.out;omega
 have HA5:Hid (w5.ownsRow w2.heap.size 3 1 (.slice (some ⟨g3,0,none⟩) 1 c3) 1 ([(q:Int)].map i64V)):=Lib.hid (hu5.owns HO4.out (fun j e q=>by injection e with e;exact hgn (e.trans q)))
 have HU5:Hid (Below w.heap.size w w5):=Lib.hid (HB4.out.trans (hu5.toBelow HB4.out.size (fun k hk e=>by have:=HNK.out;omega)))
 clear hw5 hu5 HR4 HO4 z7 z4 y7 y4 HB4 HB3 HR3
 have mk64:=mkB64 w5
 have hal:=Go.Joins.below_alloc1 w5 (.cells ((zeros 64).map u8V).toArray 5)
 obtain⟨w7,hcp,hbk,hu7⟩:=copy64 (bk_new w5 (zeros 64)) (HZ.out.keep (HU5.out.trans (hal.mono HU5.out.size))) HX.out.2.2.2.1
 rw[← HL.out] at hcp
 go_wp2_with fail
 refine wp_loop_rounds 2 ?_
 rw[rounds_succ]
 go_upto_region 14 with fail
 have hs5:=HU5.out.size
 have hT6:=HT5.out.keep hal
 have hT7:=HF.out _ y (Upd.below (HU5.out.trans (hal.mono hs5))) rfl rfl rfl hT6 w5.heap.size w7 hs5 hu7
 have hn5:=HR5.out.lt
 have hr7:=(HR5.out.keep hal).upd hu7 (by omega)
 have hg5:g3<w5.heap.size:=(HA5.out.lt g3 rfl).2
 have hA7:=hu7.owns (owns_keep HA5.out hal) (fun j e=>by injection e with e;subst e;show ¬g3=w5.heap.size;omega)
 have hl64:(splice (zeros 64) 0 z).length=64:=by have:=HX.out.2.2.2.1;have:=HL.out;simp[splice,zeros];omega
 have hI7:Im (fun j=>fMut c x j∨tMut t y j) w7 (encS (some (w5.heap.size,0,64,64))) (splice (zeros 64) 0 z):=⟨by
      have:=(ob_of_bk (B:=0) (c:=64) hbk (Nat.zero_le _) (by rw[hl64];decide) hl64.symm).at
      rw[hl64] at this
      exact this,fun j e q=>by
      have e:w5.heap.size=j:=by simpa [encS,Value.ownBlock] using e
      subst e
      rcases q with q|q
      · have:=HH.out.fs.lt _ (HH.out.fs.bm _ q);have:=HH.out.bl.size;omega
      · have:=(HH.out.mlt q).2;omega⟩
 have HB7:=Lib.hid ((HU5.out.trans (hal.mono hs5)).trans (hu7.toBelow (B:=w.heap.size) (Nat.le_trans hs5 hal.size) (fun k hk=>by show ¬k=w5.heap.size;omega)))
 have hnt:¬tMut t y nbk:=fun e=>by have:=(HH.out.mlt e).2;have:=HNK.out;omega
 have HWR:=Lib.hid (wrote_is hT7 hr7 hnt (Nat.le_trans HH.out.bl.size HNK.out) (n:={ N with sz:=L,pv:=.slice (some ⟨g3,0,none⟩) 1 c3,ps:=[(q:Int)] }) (at_of_owned (f:=Value.int .i64) (d:=0) (xs:=[(q:Int)]) hA7) (k:=0) (by simp) (by simp) (q:=q) (G':=G') HX.out.2.2.1 ⟨fun i hi e=>by have:=(HH.out.ps i hi).lt nbk e;have:=HNK.out;omega,fun p s e=>by have:=HH.out.ltP e;have:=HNK.out;omega⟩ hI7 hl64 (Nat.le_trans HH.out.bl.size hs5) (by show w5.heap.size≠nbk;omega) HX.out.2.2.2.2.2.1)
 clear hT6 hT7 hr7 hA7 hI7 hnt hbk hal hu7 hcp mk64
 have HWR:Hid (Calls Tryz.prog 130 #[.pointer (some ⟨t,0,none⟩),.pointer (some ⟨nbk,0,none⟩),.int .i64 0,.slice (some ⟨w5.heap.size,0,none⟩) 64 64] w7 fun e w'=>e=.returned (.tuple #[])∧WroteT w0 w7 c x t y nbk { N with sz:=L,pv:=.slice (some ⟨g3,0,none⟩) 1 c3,ps:=[(q:Int)] } 0 q G' (w5.heap.size,0,64,64) (splice (zeros 64) 0 z) w'):=Lib.hid HWR.out
 go_upto_region 15 with (go_at_call 130;(with_reducible refine HWR.out.mono ?_);rintro e8 w8 ⟨rfl,v8,hT8,hr8,ha8,hf8,hu8⟩)
 have HT8:=Lib.hid hT8
 have l8:(ldR 120 (.pointer (some ⟨nbk,0,none⟩))).run Tryz.prog w8=.ok (.agg (ndA { N with sz:=L,pv:=v8,ps:=[(q:Int)] })) w8:=hr8.ld0 Tryz.underlying120 rfl (by rw[ndA_size];kernel_rfl)
 have HIP:Ip (fun j=>fMut c x j∨tMut t { y with G:=G',pt:=fun j=>if j=(q:Int) then some (w5.heap.size,0,64,64) else y.pt j,np:=y.np+1,pby:=fun j=>if j=(q:Int) then splice (zeros 64) 0 z else y.pby j } j∨(¬x.bs j∧j<w0.heap.size)) w8 { N with sz:=L,pv:=v8,ps:=[(q:Int)] }:=⟨ha8,fun j e q=>by
    have:=(hf8 j e).1
    have h7:=HB7.out.size
    rcases q with q|q|q
    · have:=HH.out.fs.lt _ (HH.out.fs.bm _ q);have:=HH.out.bl.size;omega
    · have:=(HH.out.mlt (show tMut t y j from q)).2;omega
    · have:=HH.out.bl.size;omega,fun j e=>(hf8 j e).2⟩
 have HSE:=Lib.hid (set_is hT8 HX.out.1 HNN.out HIP HX.out.2.2.2.2.2.2)
 have HU8:=Lib.hid ((Upd.below (S:=tMut t y) HB7.out).trans' hu8 (fun k hk e=>e.elim id (fun e=>by have:=HNK.out;omega)))
 clear hT8 hr8 ha8 hf8 hu8 HIP HWR
 go_wp2_with fail
 rw[rounds_succ]
 go_wp2_with (go_at_call 117;(with_reducible refine HSE.out.mono ?_);rintro e9 w9 ⟨rfl,hT9,hu9⟩)
 refine bodyPost_end (results_none rfl _ _ _) rfl ⟨rfl,⟨v8,(w5.heap.size,0,64,64),?_⟩,HU8.out.trans hu9⟩
 have e1:({ (y.nd i) with sz:=(z.length:Nat),pv:=v8,ps:=[(q:Int)] }:Nd)={ N with sz:=L,pv:=v8,ps:=[(q:Int)] }:=by rw[HD.out,HL.out]
 rw[e1,← HNN.out]
 exact hT9
end
section
variable {w:World} {c:FC} {x:FM}
theorem findGF_is (h:FSt w c x) {i:Nat}(hi:i<32) {n:Int}(hn:n=i+1)(hk:(x.nd i).k=2) {p:Nat}(hp:(x.nd i).ps=[(p:Int)])(hp0:p≠0)(hp1:p<256)(hs:(x.nd i).sz=16)(hf:(fsec x p).take 16=entL):Calls Tryz.prog 123 #[.pointer (some ⟨c.F,0,none⟩),.int .i64 n,.string ⟨#[103]⟩] w fun e w'=>e=.returned (.tuple #[.int .i64 0,.int .i64 4])∧Below w.heap.size w w':=by
 have HN:=Lib.hid (nameG_is w)
 have HD:=Lib.hid (dirF_is h hi hn hk)
 have HB:=Lib.hid (begin_is h)
 have HX:=Lib.hid (And.intro hp (And.intro hp0 (And.intro hp1 (And.intro hs (And.intro hn hf)))))
 clear h hk hp hs hn hp0 hp1 hf
 go_enter Tryz.func123,Tryz.ntmps123
 go_wp2_with (first|(go_at_call 201;(with_reducible refine HN.out.mono ?_);rintro e1 w1 ⟨rfl,rfl⟩)|(go_at_call 202;(with_reducible refine HD.out.mono ?_);rintro e1 w1 ⟨rfl,rfl⟩)|(go_at_call 53;(with_reducible refine HB.out.mono ?_);rintro e2 w2 ⟨t,g,cap,db,pb,rfl,hT⟩;have HE:=Lib.hid (entries1_is (L:=16) hT hi HX.out.1 HX.out.2.1 HX.out.2.2.1 HX.out.2.2.2.1 (by decide) HX.out.2.2.2.2.1);have HB2:=Lib.hid hT.bl;clear hT)|(go_at_call 204;(with_reducible refine HE.out.mono ?_);rintro e3 w3 ⟨v3,rfl,ha3,hf3,hb3⟩;have ha3:At (Value.int .u8) 0 w3 v3 entL:=(by have e:tsec x (tm0 x g cap db pb) p=fsec x p:=rfl;rw[e,HX.out.2.2.2.2.2] at ha3;exact ha3);obtain⟨b3,o3,c3,rfl⟩:=ha3.form16 rfl;have HF:=Lib.hid (findG_is ha3);have HB3:=Lib.hid (HB2.out.trans (hb3.mono HB2.out.size));clear hb3 ha3 hf3)|(go_at_call 203;(with_reducible refine HF.out.mono ?_);rintro e4 w4 ⟨rfl,hb4⟩;have HB4:=Lib.hid (HB3.out.trans (hb4.mono HB3.out.size));clear hb4))
 go_ret2
 exact⟨rfl,HB4.out⟩
theorem placeGF_is (h:FSt w c x) {i:Nat}(hi:i<32) {n:Int}(hn:n=i+1)(hk:(x.nd i).k=2) {p:Nat}(hp:(x.nd i).ps=[(p:Int)])(hp0:p≠0)(hp1:p<256)(hs:(x.nd i).sz=16)(hf:(fsec x p).take 16=entL)(hl:(x.nd i).l=1):Calls Tryz.prog 205 #[.pointer (some ⟨c.F,0,none⟩),.int .i64 n,.string ⟨#[103]⟩] w fun e w'=>e=.returned (.int .i64 0)∧Below w.heap.size w w':=by
 have HF:=Lib.hid (findGF_is h hi hn hk hp hp0 hp1 hs hf)
 have HH:=Lib.hid h
 have HX:=Lib.hid (And.intro hi (And.intro hn (And.intro hk hl)))
 have hcm:(x.cap:Int)≤9223372036854775807:=by have:=h.cp.2;unfold maxLen at this;omega
 have y1:IntKind.i64.wrap (n-1)=i:=by rw[IntWalk.i64_in _ (by omega)];omega
 have i3:(i:Int)<32:=by omega
 have i0:(0:Int)≤i:=by omega
 clear h hk hp hs hn hl hp0 hp1 hf
 go_enter Tryz.func205,Tryz.ntmps205
 go_upto_region 2 with (go_at_call 123;(with_reducible refine HF.out.mono ?_);rintro e1 w1 ⟨rfl,hb1⟩)
 have HH1:=Lib.hid (HH.out.keep hb1)
 have HB1:=Lib.hid hb1
 have HT:Hid (Calls Tryz.prog 209 #[.pointer (some ⟨c.F,0,none⟩),.int .i64 n] w1 fun e w'=>e=.returned (.bool true)∧w1=w'):=Lib.hid (by have:=thereF_is HH1.out HX.out.1 HX.out.2.1;rw[HX.out.2.2.1] at this;exact this)
 have c4:=HH1.out.c4
 obtain⟨C,hC⟩:=HH1.out.nb
 have k5:w1.cell? ⟨x.N,i*8+5,none⟩=some (.int .i64 1):=by rw[hC.cell HX.out.1 (j:=5) (by decide),← HX.out.2.2.2];rfl
 clear hb1 hC
 go_wp2_with (go_at_call 209;(with_reducible refine HT.out.mono ?_);rintro e1 w1 ⟨rfl,rfl⟩)
 go_ret
 exact⟨rfl,HB1.out⟩
theorem lookG_is (h:FSt w c x) {i:Nat}(hi:i<32) {n:Int}(hn:n=i+1)(hk:(x.nd i).k=2) {p:Nat}(hp:(x.nd i).ps=[(p:Int)])(hp0:p≠0)(hp1:p<256)(hs:(x.nd i).sz=16)(hf:(fsec x p).take 16=entL):Calls Tryz.prog 57 #[.pointer (some ⟨c.F,0,none⟩),.int .i64 n,.string ⟨#[103]⟩] w fun e w'=>e=.returned (.tuple #[.int .i64 0,.int .i64 4])∧Below w.heap.size w w':=by
 have HF:=Lib.hid (findGF_is h hi hn hk hp hp0 hp1 hs hf)
 clear h hn hk hp hs hf hp0 hp1
 go_enter Tryz.func57,Tryz.ntmps57
 go_wp2_with (go_at_call 123;(with_reducible refine HF.out.mono ?_);rintro e1 w1 ⟨rfl,hb1⟩)
 go_ret2
 exact⟨rfl,hb1⟩
attribute [local go_sem ↓] ld_ino st_ino2
theorem free2_is (h:FSt w c x)(h0:(x.nd 0).k=2)(h1:(x.nd 1).k=1)(h2:(x.nd 2).k=0):Calls Tryz.prog 206 #[.pointer (some ⟨c.F,0,none⟩)] w fun e w'=>e=.returned (.tuple #[.int .i64 3,.int .i64 0])∧Below w.heap.size w w':=by
 have c4:=h.c4
 obtain⟨C,hC⟩:=h.nb
 have hcm:(x.cap:Int)≤9223372036854775807:=by have:=h.cp.2;unfold maxLen at this;omega
 have st:∀(w:World) (i:Nat),i<32→(stR 120 (.pointer (some ⟨w.heap.size,0,none⟩)) (.agg (ndA (x.nd i)))).run Tryz.prog (w.alloc (.cells #[.int .i64 0,.int .i64 0,.int .i64 0,.int .i64 0,.int .i64 0,.int .i64 0,.int .i64 0,.slice none 0 0] 120))=.ok () (w.alloc (.cells (ndA (x.nd i)) 120)):=fun w i hi=>st0_new w (T:=120) (cs:=ndA (x.nd i)) rfl (by rw[ndA_size];kernel_rfl) (ndA_one _ (ip_one (h.ps i hi).1))
 obtain⟨w1,hw1⟩:∃w1,w1=w.alloc (.cells (ndA (x.nd 0)) 120):=⟨_,rfl⟩
 obtain⟨w2,hw2⟩:∃w2,w2=w1.alloc (.cells (ndA (x.nd 1)) 120):=⟨_,rfl⟩
 obtain⟨w3,hw3⟩:∃w3,w3=w2.alloc (.cells (ndA (x.nd 2)) 120):=⟨_,rfl⟩
 have b1:Below w.heap.size w w1:=by rw[hw1];exact Go.Joins.below_alloc1 w _
 have b2:Below w.heap.size w w2:=by rw[hw2];exact b1.alloc b1.size _
 have b3:Below w.heap.size w w3:=by rw[hw3];exact b2.alloc b2.size _
 have l0:(ldR 120 (.pointer (some ⟨x.N,0,none⟩))).run Tryz.prog w=.ok (.agg (ndA (x.nd 0))) w:=hC.ld (i:=0) (by decide)
 have l1:(ldR 120 (.pointer (some ⟨x.N,8,none⟩))).run Tryz.prog w1=.ok (.agg (ndA (x.nd 1))) w1:=(hC.keep b1).ld (i:=1) (by decide)
 have l2:(ldR 120 (.pointer (some ⟨x.N,16,none⟩))).run Tryz.prog w2=.ok (.agg (ndA (x.nd 2))) w2:=(hC.keep b2).ld (i:=2) (by decide)
 have s0:=st w 0 (by decide)
 have s1:=st w1 1 (by decide)
 have s2:=st w2 2 (by decide)
 rw[← hw1] at s0
 rw[← hw2] at s1
 rw[← hw3] at s2
 have q0:w1.cell? ⟨w.heap.size,0,none⟩=some (.int .i64 2):=by rw[hw1,(row_new w _ _).cell,← h0];rfl
 have q1:w2.cell? ⟨w1.heap.size,0,none⟩=some (.int .i64 1):=by rw[hw2,(row_new w1 _ _).cell,← h1];rfl
 have q2:w3.cell? ⟨w2.heap.size,0,none⟩=some (.int .i64 0):=by rw[hw3,(row_new w2 _ _).cell,← h2];rfl
 have c41:=(h.keep b1).c4
 have c42:=(h.keep b2).c4
 have HB:=Lib.hid b3
 clear h hC b1 b2 b3 h0 h1 h2 hw1 hw2 hw3 st
 generalize ndA (x.nd 0)=A0 at *
 generalize ndA (x.nd 1)=A1 at *
 generalize ndA (x.nd 2)=A2 at *
 go_enter Tryz.func206,Tryz.ntmps206
 go_wp2_with fail
 refine wp_loop_rounds 3 ?_
 rw[rounds_succ]
 go_wp2_with fail
 rw[rounds_succ]
 go_wp2_with fail
 rw[rounds_succ]
 go_wp2_with fail
 go_ret2
 exact⟨rfl,HB.out⟩
end
section
variable {w0 w:World} {c:FC} {x:FM} {t:Nat} {y:TM}
theorem enterGg_is (h:TX w0 w c x t y) {q:Nat}(hps:(y.nd 0).ps=[(q:Int)])(hsz:(y.nd 0).sz=16)(hq0:q≠0)(hq1:q<256)(hf:(tsec x y q).take 16=entL)(hnp:y.np<1000)(hnb:y.nb<1000) :
  Calls Tryz.prog 208 #[.pointer (some ⟨t,0,none⟩),.int .i64 1,.string ⟨#[103]⟩,.int .i64 3] w fun e w'=>e=.returned (.int .i64 0)∧(∃bl,bl.length=32∧FillT w0 c x t y 0 q y.G bl w')∧(∀j,tMut t y j→j<w.heap.size)∧Upd (tMut t y) w w':=by
 have HE:=Lib.hid (entries1_is (L:=16) h (i:=0) (by decide) hps hq0 hq1 hsz (by decide) (n:=1) rfl)
 have HH:=Lib.hid h
 have HX:=Lib.hid (And.intro hps (And.intro (And.intro hq0 (And.intro hq1 hf)) (And.intro hnp hnb)))
 clear h hps hsz hq0 hq1 hf hnp hnb
 go_enter Tryz.func208,Tryz.ntmps208
 go_wp2_with (first|(go_at_call 204;(with_reducible refine HE.out.mono ?_);rintro e1 w1 ⟨v1,rfl,ha1,hf1,hb1⟩;have ha1:At (Value.int .u8) 0 w1 v1 entL:=(by rw[HX.out.2.1.2.2] at ha1;exact ha1);obtain⟨b1,o1,c1,rfl⟩:=ha1.form16 rfl;have HP:=Lib.hid (putG_is ha1);have HB1:=Lib.hid hb1;clear hb1 ha1 hf1)|(go_at_call 268;(with_reducible refine HP.out.mono ?_);rintro e2 w2 ⟨gb,rfl,hgb,⟨bl,hbl,hk2⟩,hb2⟩;have HB2:=Lib.hid (HB1.out.trans (hb2.mono HB1.out.size));have hat2:=(ob_of_bk (B:=0) (c:=32) hk2 (Nat.zero_le _) (by rw[hbl];decide) hbl.symm).at;rw[hbl] at hat2;have HFL:=Lib.hid (fillP_is (HH.out.keep HB2.out) (i:=0) (by decide) HX.out.1 HX.out.2.1.1 HX.out.2.1.2.1 (n:=1) rfl (v:=.slice (some ⟨gb,0,none⟩) 32 32) (z:=bl) hat2 (by rw[hbl];decide) (by rw[hbl];decide) (fun j e q=>by injection e with e;have hm:=(HH.out.mlt q).2;have hz:=HB1.out.size;have e:gb=j:=e;omega) HX.out.2.2.1 HX.out.2.2.2);have HBL:=Lib.hid hbl;clear hgb hk2 hb2 hat2 hbl)|(go_at_call 207;(with_reducible refine HFL.out.mono ?_);rintro e3 w3 ⟨rfl,hF,hU⟩;have HF:=Lib.hid hF;have HU:=Lib.hid ((Upd.below (S:=tMut t y) HB2.out).trans hU);clear hF hU))
 go_ret
 exact⟨rfl,⟨bl,HBL.out,HF.out⟩,fun j hj=>(HH.out.mlt hj).2,HU.out⟩
end
theorem cntD_two (y:TM)(h:∀k,2≤k→dirt y k=false):∀k,cntD y k≤2
 | 0=>by simp[cntD]
 | k+1=>by
  have ih:=cntD_two y h k
  rw[cntD_next]
  rcases k with _|_|k
  ·simp[cntD];split <;> omega
  ·have:=cntD_next y 0
   have h0:cntD y 0=0:=by simp[cntD]
   rw[this,h0]
   split <;> split <;> omega
  ·rw[h (k+2) (by omega)]
   simpa using ih
structure DirG (x:FM) (q f:Nat):Prop where
 k:(x.nd 0).k=2
 ps:(x.nd 0).ps=[(q:Int)]
 sz:(x.nd 0).sz=16
 l:(x.nd 0).l=1
 q0:q≠0
 q1:q<256
 sec:(fsec x q).take 16=entL
 n0:NdOk (x.nd 0)
 n1:NdOk (x.nd 1)
 k1:(x.nd 1).k=1
 nz:∀i,2≤i→i<32→x.nd i=nd0
 G:∀k,k<16→37≤x.G k∧x.G k<256∧hasB (hasT x.G) (x.G k)=true
 gi:∀i j,i<16→j<16→x.G i=x.G j→i=j
 q37:37≤q
 free:Free x.G f 2
 na:x.na≤4
structure MadeG (w w':World) (c:FC) (x:FM) (q:Nat) (m u g:Int) (x':FM):Prop where
 st:FSt w' c x'
 r0:∃pv,x'.nd 0={ x.nd 0 with sz:=32,pv:=pv }
 r1:x'.nd 1=x.nd 1
 r2:∃pv,x'.nd 2=⟨1,m,u,g,0,1,0,pv,[]⟩
 rz:∀i,3≤i→x'.nd i=x.nd i
 G:x'.G=x.G
 na:x'.na≤x.na+7
 held:x'.held=x.held∧x'.nh=x.nh
 a:x'.a=x.a
 bs:∀j,x'.bs j→x.bs j∨w.heap.size≤j
 up:Upd (fun j=>j=c.F∨j=x.a) w w'
 sd:SameD x x'
theorem made_endG {w4 w8 w:World} {c:FC} {x:FM} {t:Nat} {Y:TM} {q f:Nat} {m u g:Int} {bl:List Int} {v7 v8:Value} {s8:SL}(hT:TX w4 w8 c x t Y)(hbl:bl.length=32)(h1:Y.nd=ups1 (ups1 (ups1 x.nd 2 (fNode m u g 1)) 2 { (ups1 x.nd 2 (fNode m u g 1) 2) with sz:=0,pv:=v7,ps:=[] }) 0 { (ups1 (ups1 x.nd 2 (fNode m u g 1)) 2 { (ups1 x.nd 2 (fNode m u g 1) 2) with sz:=0,pv:=v7,ps:=[] } 0) with sz:=((bl.length:Nat):Int),pv:=v8,ps:=[(q:Int)] })(h2:Y.G=x.G)(h3:Y.dy=fun j=>if j=((0:Nat):Int)+1 then some () else if j=((2:Nat):Int)+1 then some () else if j=3 then some () else none)(h4:Y.gv=.slice none 0 0)(h5:Y.np=1)(h6:Y.pt=fun j=>if j=(q:Int) then some s8 else none)(hr:DirG x q f)(hm:0≤m∧m≤511)(hu:0≤u∧u≤255)(hg:0≤g∧g≤255)(hw:Below w.heap.size w w4) :
  Calls Tryz.prog 55 #[.pointer (some ⟨t,0,none⟩)] w8 fun e w'=>e=.returned (.int .i64 0)∧∃x',MadeG w w' c x q m u g x':=by
 have e0:Y.nd 0={ x.nd 0 with sz:=32,pv:=v8 }:=by
  rw[h1,ups1_same,ups1_off _ _ (by decide),ups1_off _ _ (by decide),hbl]
  show ({ x.nd 0 with sz:=32,pv:=v8,ps:=[(q:Int)] }:Nd)=_
  rw[← hr.ps]
 have e1:Y.nd 1=x.nd 1:=by rw[h1,ups1_off _ _ (by decide),ups1_off _ _ (by decide),ups1_off _ _ (by decide)]
 have e2:Y.nd 2=⟨1,m,u,g,0,1,0,v7,[]⟩:=by rw[h1,ups1_off _ _ (by decide),ups1_same,ups1_same];rfl
 have e3:∀i,3≤i→Y.nd i=x.nd i:=fun i hi=>by rw[h1,ups1_off _ _ (by omega),ups1_off _ _ (by omega),ups1_off _ _ (by omega)]
 have hd3:∀j:Int,j≠1→j≠3→Y.dy j=none:=fun j j1 j3=>by rw[h3];simp only;rw[if_neg (by omega),if_neg (by omega),if_neg (by omega)]
 have hc2:cntD Y 16≤2:=cntD_two Y (fun k hk=>by
    unfold dirt
    rw[hd3 _ (by omega) (by omega),hd3 _ (by omega) (by omega)]
    rfl) 16
 have hok:∀i,i<32→NdOk (Y.nd i)∨Y.nd i=nd0:=fun i hi=>by
  rcases i with _|_|_|i
  ·left
   rw[e0]
   have n:=hr.n0
   exact⟨n.k,n.m,n.u,n.g,n.l,n.up,n.ps,32,rfl,by decide,by show (x.nd 0).ps.length=_;rw[hr.ps];rfl⟩
  ·left;rw[e1];exact hr.n1
  ·left
   rw[e2]
   exact⟨by simp,hm,hu,hg,by simp,.inr ⟨by simp,rfl⟩,⟨by simp,fun p hp=>by cases hp⟩,0,rfl,by decide,rfl⟩
  ·right
   rw[e3 _ (by omega)]
   exact hr.nz _ (by omega) hi
 refine(end_is hT hok (fun k hk=>by have:=hr.G k hk;rw[h2];omega) (fun i j hi hj e=>by rw[h2] at e;exact hr.gi i j hi hj e) h4 (by have:=hr.na;omega) (fun j j1 j4=>by rw[h6];simp only;rw[if_neg (by have:=hr.q37;omega)])).mono ?_
 rintro e w' ⟨rfl,⟨P,n,B,hn,hoff,hF,hE⟩,hU⟩
 refine⟨rfl,_,hF,⟨v8,e0⟩,e1,⟨v7,e2⟩,e3,h2,?_,⟨rfl,rfl⟩,rfl,fun j hj=>?_,(Upd.below hw).trans hU,⟨rfl,rfl,rfl,rfl,rfl,rfl⟩⟩
 ·show x.na+n≤x.na+7
  omega
 ·rcases hj with hj|hj
  ·exact .inl hj
  ·exact .inr (Nat.le_trans hw.size hj.1)
section
variable {w:World} {c:FC} {x:FM}
attribute [local go_sem ↓] ld_ino st_ino2
theorem addGg_is (h:FSt w c x) {q f:Nat}(hr:DirG x q f) {m u g:Int}(hm:0≤m∧m≤511)(hu:0≤u∧u≤255)(hg:0≤g∧g≤255) :
  Calls Tryz.prog 125 #[.pointer (some ⟨c.F,0,none⟩),.int .i64 1,.string ⟨#[103]⟩,.agg (ndA (fNode m u g 0)),.slice none 0 0] w fun e w'=>e=.returned (.tuple #[.int .i64 3,.int .i64 0])∧∃x',MadeG w w' c x q m u g x':=by
 have hal:=Go.Joins.below_alloc1 w (.cells (ndA (fNode m u g 0)) 120)
 have HP:=Lib.hid (placeGF_is (h.keep hal) (i:=0) (by decide) (n:=1) rfl hr.k hr.ps hr.q0 hr.q1 hr.sz hr.sec hr.l)
 have HH:=Lib.hid (h.keep hal)
 have HB:=Lib.hid hal
 have HR:=Lib.hid (row_new w 120 (ndA (fNode m u g 0)))
 have HX:=Lib.hid (And.intro hr (And.intro hm (And.intro hu hg)))
 have HO:=Lib.hid h
 clear h hal hr hm hu hg
 obtain⟨A0,hA0⟩:∃A,A=ndA (fNode m u g 0):=⟨_,rfl⟩
 rw[← hA0] at HP HH HB HR ⊢
 have HA0:=Lib.hid hA0
 clear hA0
 go_enter Tryz.func125,Tryz.ntmps125
 go_upto_region 1 with fail
 generalize w.alloc (.cells A0 120)=w1 at *
 go_upto_region 4 with (go_at_call 205;(with_reducible refine HP.out.mono ?_);rintro e2 w2 ⟨rfl,hb2⟩)
 have HH2:=Lib.hid (HH.out.keep hb2)
 have HB2:=Lib.hid (HB.out.trans (hb2.mono HB.out.size))
 have HR2:=Lib.hid (HR.out.keep hb2)
 have HF:=Lib.hid (free2_is HH2.out HX.out.1.k HX.out.1.k1 (by rw[HX.out.1.nz 2 (by decide) (by decide)];rfl))
 clear hb2 HP HH HB HR
 go_upto_region 7 with (go_at_call 206;(with_reducible refine HF.out.mono ?_);rintro e3 w3 ⟨rfl,hb3⟩)
 have HH3:=Lib.hid (HH2.out.keep hb3)
 have HB3:=Lib.hid (HB2.out.trans (hb3.mono HB2.out.size))
 have HR3:=Lib.hid (HR2.out.keep hb3)
 clear hb3 HF HH2 HB2 HR2
 have z5:=HR3.out.fz 5
 have y5:w3.cell? ⟨w.heap.size,5,none⟩=some (.int .i64 0):=by rw[HR3.out.cell,HA0.out];rfl
 have y0:w3.cell? ⟨w.heap.size,0,none⟩=some (.int .i64 1):=by rw[HR3.out.cell,HA0.out];rfl
 have hu4:Upd (fun j=>j=w.heap.size) w3 (w3.setCell ⟨w.heap.size,5,none⟩ (.int .i64 1)):=Upd.set w3 _ rfl
 have x0:(w3.setCell ⟨w.heap.size,5,none⟩ (.int .i64 1)).cell? ⟨w.heap.size,0,none⟩=some (.int .i64 1):=set_off (by decide) y0
 have HR4:Hid (Row (w3.setCell ⟨w.heap.size,5,none⟩ (.int .i64 1)) w.heap.size 120 (ndA (fNode m u g 1))):=Lib.hid (by
    rw[HR3.out.setCell,HA0.out]
    exact HR3.out.setRow _)
 have HH4:=Lib.hid (HH3.out.upd hu4 (fun j hj e=>by have:=HO.out.lt j hj;have e:j=w.heap.size:=e;omega))
 have HB4:=Lib.hid (HB3.out.trans (hu4.toBelow HB3.out.size (fun k hk e=>by have e:k=w.heap.size:=e;omega)))
 clear hu4 HR3 HH3 HB3
 go_upto_region 10 with fail
 generalize w3.setCell ⟨w.heap.size,5,none⟩ (.int .i64 1)=w4 at *
 have HBG:=Lib.hid (begin_is HH4.out)
 clear y0 y5 z5 x0
 go_upto_region 11 with (go_at_call 53;(with_reducible refine HBG.out.mono ?_);rintro e5 w5 ⟨t,gN,cN,db,pb,rfl,hT5⟩)
 have HT5:=Lib.hid hT5
 have hr5:=HR4.out.keepB hT5.bl HR4.out.lt
 have l5:=hr5.ld0 Tryz.underlying120 rfl (by rw[ndA_size];kernel_rfl)
 have hip:Ip (fun j=>fMut c x j∨tMut t (tm0 x gN cN db pb) j∨(¬x.bs j∧j<w4.heap.size)) w5 (fNode m u g 1):=⟨⟨none,0,rfl,Nat.le_refl _,Nat.zero_le _,.inl rfl⟩,fun j e=>(by cases e),fun j e=>(by cases e)⟩
 have HSE:=Lib.hid (set_is hT5 (i:=2) (by decide) (n:=3) rfl hip (show (0:Nat)<1000 by decide))
 clear hT5 hr5 hip HBG HR4
 obtain⟨A1,hA1⟩:∃A,A=ndA (fNode m u g 1):=⟨_,rfl⟩
 rw[← hA1] at l5 HSE
 clear hA1
 go_upto_region 12 with (go_at_call 117;(with_reducible refine HSE.out.mono ?_);rintro e6 w6 ⟨rfl,hT6,hu6⟩)
 have e6a:(ups1 x.nd 2 (fNode m u g 1) 2).ps=[]:=by rw[ups1_same];rfl
 have HFL:=Lib.hid (fill0_is hT6 (i:=2) (by decide) e6a (n:=3) rfl (az:=none) (cz:=0) (Nat.zero_le _) (show (0:Nat)+1<1000 by decide))
 clear hT6 hu6 HSE l5 HT5 e6a
 go_upto_region 13 with (go_at_call 207;(with_reducible refine HFL.out.mono ?_);rintro e7 w7 ⟨rfl,⟨v7,hT7⟩,hu7⟩)
 have e7a:(ups1 (ups1 x.nd 2 (fNode m u g 1)) 2 { (ups1 x.nd 2 (fNode m u g 1) 2) with sz:=0,pv:=v7,ps:=[] } 0)=x.nd 0:=by rw[ups1_off _ _ (by decide),ups1_off _ _ (by decide)]
 have HEN:=Lib.hid (enterGg_is hT7 (q:=q) ((congrArg Nd.ps e7a).trans HX.out.1.ps) ((congrArg Nd.sz e7a).trans HX.out.1.sz) HX.out.1.q0 HX.out.1.q1 (show (fsec x q).take 16=entL from HX.out.1.sec) (show (0:Nat)<1000 by decide) (show (0:Nat)+1+1<1000 by decide))
 clear hT7 hu7 HFL e7a
 go_upto_region 16 with (go_at_call 208;(with_reducible refine HEN.out.mono ?_);rintro e8 w8 ⟨rfl,hF8,-,-⟩)
 obtain⟨bl8,hbl8,v8,s8,hT8⟩:=hF8
 have HEND:=Lib.hid (made_endG hT8 hbl8 rfl rfl rfl rfl rfl rfl HX.out.1 HX.out.2.1 HX.out.2.2.1 HX.out.2.2.2 HB4.out)
 clear hT8 HEN HH4
 go_wp2_with (go_at_call 55;(with_reducible refine HEND.out.mono ?_);rintro e9 w9 ⟨rfl,hM⟩)
 go_ret2
 exact⟨rfl,hM⟩
attribute [local go_sem ↓] bd_ino
theorem makeGg_is (h:FSt w c x) {q f:Nat}(hr:DirG x q f) {m u g:Int}(hm:0≤m∧m≤511)(hu:0≤u∧u≤255)(hg:0≤g∧g≤255) :
  Calls Tryz.prog 59 #[.pointer (some ⟨c.F,0,none⟩),.int .i64 1,.string ⟨#[103]⟩,.int .i64 1,.int .i64 m,.int .i64 u,.int .i64 g] w fun e w'=>e=.returned (.tuple #[.int .i64 3,.int .i64 0])∧∃x',MadeG w w' c x q m u g x':=by
 have HA:=Lib.hid (addGg_is h hr hm hu hg)
 have HW:=Lib.hid (who_is w hu hg)
 have hb:=fun w=>bd_ino_run w m u g
 have m1:¬m<0:=by omega
 have m2:¬511<m:=by omega
 clear h hr hm hu hg
 generalize ndA (fNode m u g 0)=A at *
 go_enter Tryz.func59,Tryz.ntmps59
 go_wp2_with (first|(go_at_call 124;(with_reducible refine HW.out.mono ?_);rintro e1 w1 ⟨rfl,rfl⟩)|(go_at_call 125;(with_reducible refine HA.out.mono ?_);rintro e2 w2 ⟨rfl,hM⟩))
 go_ret2
 exact⟨rfl,hM⟩
end
end Go.Proofs.YtfkepfncgdlgoaaGreatDoor
