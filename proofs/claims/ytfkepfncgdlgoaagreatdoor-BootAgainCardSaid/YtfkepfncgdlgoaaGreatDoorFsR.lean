/- The walk of fs's fill at a block of bytes. The walks of fs: fits; slices.Equal at any two slices of one length. The walk of fs's differ. Ranging over a map with int keys, by a code of its elements. -/
import Derived.Test.YtfkepfncgdlgoaaGreatDoorFsI
import Derived.Test.YtfkepfncgdlgoaaGreatDoorSnapU
import Derived.StillTailTactics
import Derived.Test.YtfkepfncgdlgoaaGreatDoorFsA
import Derived.Maps.RangeWalk
namespace Go.Proofs.YtfkepfncgdlgoaaGreatDoor
open Go.RowKit Go.Maps
set_option linter.unusedVariables false
set_option linter.unusedSimpArgs false
set_option maxRecDepth 100000
set_option maxHeartbeats 2000000
def apI8:=Builtin.append_ #[54,54] 54
theorem apI8_eq:Builtin.append_ #[54,54] 54=apI8:=rfl
theorem apI_push {w:World} {B:Nat} {v:Value} {l:List Int}(h:w.ownsRow B 3 1 v l.length (l.map i64V))(hB:B≤w.heap.size) (x:Int)(h64:l.length<100000) :
  ∃v' w',(apI8 #[v,.slice (some ⟨w.heap.size,0,none⟩) 1 1]).run Tryz.prog (w.alloc (.cells #[.int .i64 x] 3))=.ok v' w'∧w'.ownsRow B 3 1 v' (l++[x]).length ((l++[x]).map i64V)∧(w.alloc (.cells #[.int .i64 x] 3)).grownBy w' v.ownBlock∧Below B w w':=by
 have hal:=(Below.refl B w).alloc hB (.cells #[.int .i64 x] 3)
 obtain⟨i0,hi,hz0,hz1,hz2⟩:=info_parts infoI8
 obtain⟨v',w',hr,ho,hg,-⟩:=run_append_fresh (P:=Tryz.prog) (w.alloc (.cells #[.int .i64 x] 3)) B 54 54 3 i0 (.int .i64 0) 1 8 Tryz.underlying54 hi hz0 hz1 hz2 rfl (by decide) v l.length (l.map i64V) (owns_keep h (Go.Joins.below_alloc1 w _)) ⟨w.heap.size,0,none⟩ 1 1 [.int .i64 x] rfl (cells1_new w (.int .i64 x) 3) (by simp[Value.oneCell']) (by unfold maxLen;omega) (by omega) (Nat.le_trans hB hal.size)
 refine⟨v',w',hr,?_,hg,hal.trans ((Below.refl B _).grown hg (Nat.le_trans hB hal.size) (fun g hgg=>(h.lt g hgg).1))⟩
 rw[List.length_append,List.map_append]
 exact ho
def FillT (w0:World) (c:FC) (x:FM) (t:Nat) (y:TM) (i q:Nat) (G':Nat→Nat) (z:List Int) (w':World):Prop:=∃v' s,
  TX w0 w' c x t { y with G:=G',nd:=ups1 y.nd i { (y.nd i) with sz:=z.length,pv:=v',ps:=[(q:Int)] },dy:=fun j=>if j=(i:Int)+1 then some () else y.dy j,nb:=y.nb+1,pt:=fun j=>if j=(q:Int) then some s else y.pt j,np:=y.np+1,pby:=fun j=>if j=(q:Int) then splice (zeros 64) 0 z else y.pby j }
section
variable {w0 w:World} {c:FC} {x:FM} {t:Nat} {y:TM}
attribute [local go_sem ↓] ld_ino st_ino2 mkB_eq copyB_eq apI8_eq
theorem fillN_is (h:TX w0 w c x t y) {i:Nat}(hi:i<32)(hps:(y.nd i).ps=[]) {n:Int}(hn:n=i+1) {q:Nat} {G':Nat→Nat}(ho:Own y.G 0 q G') {v:Value} {z:List Int}(hz:At (Value.int .u8) 0 w v z)(hz1:1≤z.length)(hz64:z.length≤64)(hzf:∀j,v.ownBlock=some j→¬tMut t y j)(hnp:y.np<1000)(hnb:y.nb<1000) :
  Calls Tryz.prog 207 #[.pointer (some ⟨t,0,none⟩),.int .i64 n,v] w fun e w'=>e=.returned (.tuple #[])∧FillT w0 c x t y i q G' z w'∧Upd (tMut t y) w w':=by
 have HH:=Lib.hid h
 have HX:=Lib.hid (And.intro hi (And.intro hps (And.intro ho (And.intro hz64 (And.intro hzf (And.intro hnp hnb))))))
 have HZ:=Lib.hid hz
 have HN:=Lib.hid (node_is h hi hn)
 have HNN:=Lib.hid hn
 obtain⟨az,cz,rfl,lz,mz,-⟩:=hz
 obtain⟨L,hL⟩:∃L,L=z.length:=⟨_,rfl⟩
 rw[← hL] at hz1 hz64 lz ⊢
 have HL:=Lib.hid hL
 have HBL:=Lib.hid (fun w=>blocks_is w L hz1 (by omega))
 have e1:(L-1) / 64+1=1:=by omega
 rw[e1] at HBL
 have mcz:(cz:Int)≤9223372036854775807:=by unfold maxLen at mz;omega
 obtain⟨N,hNd⟩:∃N,N=y.nd i:=⟨_,rfl⟩
 rw[← hNd] at HN
 have HD:=Lib.hid hNd
 have hsn:=fun w=>st0_new w (T:=120) (c:=#[.int .i64 0,.int .i64 0,.int .i64 0,.int .i64 0,.int .i64 0,.int .i64 0,.int .i64 0,.slice none 0 0]) (cs:=ndA N) rfl (by rw[ndA_size];kernel_rfl) (ndA_one N (by rw[hNd];exact ip_one (h.ps i hi)))
 clear h hi hps ho hzf hnp hnb hL hNd e1 hn
 go_enter Tryz.func207,Tryz.ntmps207
 go_upto_region 1 with (go_at_call 116;refine HN.out.mono ?_;rintro e1 w1 ⟨rfl,hb1⟩;have HB1:=Lib.hid hb1;clear hb1)
 have hr2:=row_new w1 120 (ndA N)
 have hb2:Below w.heap.size w (w1.alloc (.cells (ndA N) 120)):=HB1.out.trans ((Go.Joins.below_alloc1 w1 _).mono HB1.out.size)
 have HNK:Hid (w.heap.size≤w1.heap.size):=Lib.hid HB1.out.size
 clear hsn HN HB1
 generalize w1.alloc (.cells (ndA N) 120)=w2 at *
 generalize w1.heap.size=nbk at *
 have hA2:At (Value.int .i64) 0 w2 N.pv []:=by
  have:=(HH.out.ps i HX.out.1).a.keep hb2
  rw[HX.out.2.1,← HD.out] at this
  exact this
 have c7:w2.cell? ⟨nbk,7,none⟩=some N.pv:=by rw[hr2.cell];rfl
 have HB2:=Lib.hid hb2
 have HR2:=Lib.hid hr2
 have hbl:=HBL.out w2
 have HCL:=Lib.hid (cloneI_is (by decide) hA2)
 clear hb2 hr2
 obtain⟨ap,cp,hpv,-,mcp,-⟩:=hA2
 rw[hpv] at c7
 have HCL:Hid (Calls Tryz.prog 127 #[.slice ap 0 cp] w2 (CloneI [] w2)):=Lib.hid (by have:=HCL.out;rw[hpv] at this;exact this)
 have mcp':(cp:Int)≤9223372036854775807:=by unfold maxLen at mcp;omega
 go_upto_region 3 with (first|(go_at_call 128;(with_reducible refine hbl.mono ?_);rintro e2 w3 ⟨rfl,rfl⟩;clear hbl)|(go_at_call 127;(with_reducible refine HCL.out.mono ?_);rintro e3 w3 ⟨v3,rfl,ho3,hb3⟩;obtain⟨p3,c3,rfl⟩:=own_form ho3))
 have HB3:=Lib.hid (HB2.out.trans (hb3.mono HB2.out.size))
 have HR3:=Lib.hid (HR2.out.keep hb3)
 have HZ3:Hid (w2.heap.size≤w3.heap.size∧w.heap.size≤w2.heap.size∧nbk<w2.heap.size):=Lib.hid ⟨hb3.size,HB2.out.size,HR2.out.lt⟩
 clear HB2 HR2 c7 HCL hb3
 go_wp2_with fail
 refine wp_loop_rounds 1 ?_
 rw[rounds_succ]
 go_wp2_with fail
 refine wp_loop_rounds 2 ?_
 rw[rounds_succ]
 obtain⟨v4,w4,hap,ho4,hg4,hb4⟩:=apI_push (l:=[]) ho3 HZ3.out.1 0 (by decide)
 obtain⟨p4,c4,rfl⟩:=own_form ho4
 obtain⟨g4,rfl,hg40,hg41,hg42,hg43⟩:=own_block ho4 (by decide)
 have HB4:=Lib.hid (HB3.out.trans (hb4.mono HZ3.out.2.1))
 have HR4:=Lib.hid (HR3.out.keepB hb4 HZ3.out.2.2)
 have HO4:=Lib.hid ho4
 have HG4:=Lib.hid (And.intro hg40 (And.intro hg41 (And.intro hg42 hg43)))
 have mc4:(c4:Int)≤9223372036854775807:=by unfold maxLen at hg43;omega
 have hap:(apI8 #[.slice p3 0 c3,.slice (some ⟨w3.heap.size,0,none⟩) 1 1]).run Tryz.prog (w3.alloc (.cells #[.int .i64 0] 3))=.ok (.slice (some ⟨g4,0,none⟩) 1 c4) w4:=hap
 have z7:=HR4.out.fz 7
 have z4:=HR4.out.fz 4
 have y7:=HR4.out.cell 7
 have y4:=HR4.out.cell 4
 clear ho3 ho4 hg4 hb4 hg40 hg41 hg42 hg43 HB3 HR3
 go_wp2_with fail
 rw[rounds_succ]
 go_upto_region 9 with fail
 obtain⟨w5,hw5⟩:∃w5,w5=(w4.setCell ⟨nbk,7,none⟩ (.slice (some ⟨g4,0,none⟩) 1 c4)).setCell ⟨nbk,4,none⟩ (.int .i64 (L:Int)):=⟨_,rfl⟩
 rw[← hw5]
 have hu5:Upd (fun j=>j=nbk) w4 w5:=by rw[hw5];exact(Upd.set w4 (b:=nbk) (i:=7) _ (S:=fun j=>j=nbk) rfl).trans (Upd.set _ (b:=nbk) (i:=4) _ rfl)
 have HR5:Hid (Row w5 nbk 120 (ndA { N with sz:=L,pv:=.slice (some ⟨g4,0,none⟩) 1 c4,ps:=[0] })):=Lib.hid (by
    have q1:=HR4.out.setRow ((ndA N).setIfInBounds 7 (.slice (some ⟨g4,0,none⟩) 1 c4))
    rw[hw5,HR4.out.setCell,q1.setCell]
    exact q1.setRow _)
 have HF:Hid (∀wx y',Upd (tMut t y) w wx→y'.nd=y.nd→y'.pt=y.pt→tMut t y'=tMut t y→TX w0 wx c x t y'→∀j w',w.heap.size≤j→Upd (fun k=>k=j) wx w'→TX w0 w' c x t y'):=Lib.hid (fun wx y' _ e1 e2 e3 hT j w' hj hu=>hT.far hu (fun k ek=>by
    subst ek
    refine⟨Nat.le_trans HH.out.bl.size hj,fun e=>?_,fun i hi e=>?_,fun p s e=>?_⟩
    · rw[e3] at e;have:=(HH.out.mlt e).2;omega
    · rw[e1] at e;have:=(HH.out.ps i hi).lt k e;omega
    · rw[e2] at e;have:=HH.out.ltP e;omega))
 have HT5:=Lib.hid (HF.out w4 y (Upd.below HB4.out) rfl rfl rfl (HH.out.keep HB4.out) nbk w5 HNK.out hu5)
 have hgn:g4≠nbk:=by have:=HG4.out.1;have:=HZ3.out;omega
 have HA5:Hid (w5.ownsRow w2.heap.size 3 1 (.slice (some ⟨g4,0,none⟩) 1 c4) 1 ([(0:Int)].map i64V)):=Lib.hid (hu5.owns HO4.out (fun j e q=>by injection e with e;exact hgn (e.trans q)))
 have HU5:Hid (Below w.heap.size w w5):=Lib.hid (HB4.out.trans (hu5.toBelow HB4.out.size (fun k hk e=>by have:=HNK.out;omega)))
 clear hw5 hu5 HR4 HO4 z7 z4 y7 y4 hap HB4
 have mk64:=mkB64 w5
 have hal:=Go.Joins.below_alloc1 w5 (.cells ((zeros 64).map u8V).toArray 5)
 obtain⟨w7,hcp,hbk,hu7⟩:=copy64 (bk_new w5 (zeros 64)) (HZ.out.keep (HU5.out.trans (hal.mono HU5.out.size))) HX.out.2.2.2.1
 rw[← HL.out] at hcp
 go_wp2_with fail
 refine wp_loop_rounds 2 ?_
 rw[rounds_succ]
 go_upto_region 14 with fail
 have hs5:=HU5.out.size
 have hT6:=HT5.out.keep hal
 have hT7:=HF.out _ y (Upd.below (HU5.out.trans (hal.mono hs5))) rfl rfl rfl hT6 w5.heap.size w7 hs5 hu7
 have hn5:=HR5.out.lt
 have hr7:=(HR5.out.keep hal).upd hu7 (by omega)
 have hg5:g4<w5.heap.size:=(HA5.out.lt g4 rfl).2
 have hA7:=hu7.owns (owns_keep HA5.out hal) (fun j e=>by injection e with e;subst e;show ¬g4=w5.heap.size;omega)
 have hl64:(splice (zeros 64) 0 z).length=64:=by have:=HX.out.2.2.2.1;have:=HL.out;simp[splice,zeros];omega
 have hI7:Im (fun j=>fMut c x j∨tMut t y j) w7 (encS (some (w5.heap.size,0,64,64))) (splice (zeros 64) 0 z):=⟨by
      have:=(ob_of_bk (B:=0) (c:=64) hbk (Nat.zero_le _) (by rw[hl64];decide) hl64.symm).at
      rw[hl64] at this
      exact this,fun j e q=>by
      have e:w5.heap.size=j:=by simpa [encS,Value.ownBlock] using e
      subst e
      rcases q with q|q
      · have:=HH.out.fs.lt _ (HH.out.fs.bm _ q);have:=HH.out.bl.size;omega
      · have:=(HH.out.mlt q).2;omega⟩
 have HB7:=Lib.hid ((HU5.out.trans (hal.mono hs5)).trans (hu7.toBelow (B:=w.heap.size) (Nat.le_trans hs5 hal.size) (fun k hk=>by show ¬k=w5.heap.size;omega)))
 have hnt:¬tMut t y nbk:=fun e=>by have:=(HH.out.mlt e).2;have:=HNK.out;omega
 have HWR:=Lib.hid (wrote_is hT7 hr7 hnt (Nat.le_trans HH.out.bl.size HNK.out) (n:={ N with sz:=L,pv:=.slice (some ⟨g4,0,none⟩) 1 c4,ps:=[0] }) (at_of_owned (f:=Value.int .i64) (d:=0) (xs:=[0]) hA7) (k:=0) (by simp) (by simp) (q:=q) (G':=G') HX.out.2.2.1 ⟨fun i hi e=>by have:=(HH.out.ps i hi).lt nbk e;have:=HNK.out;omega,fun p s e=>by have:=HH.out.ltP e;have:=HNK.out;omega⟩ hI7 hl64 (Nat.le_trans HH.out.bl.size hs5) (by show w5.heap.size≠nbk;omega) HX.out.2.2.2.2.2.1)
 clear hT6 hT7 hr7 hA7 hI7 hnt hbk hal hu7 hcp mk64
 have HWR:Hid (Calls Tryz.prog 130 #[.pointer (some ⟨t,0,none⟩),.pointer (some ⟨nbk,0,none⟩),.int .i64 0,.slice (some ⟨w5.heap.size,0,none⟩) 64 64] w7 fun e w'=>e=.returned (.tuple #[])∧WroteT w0 w7 c x t y nbk { N with sz:=L,pv:=.slice (some ⟨g4,0,none⟩) 1 c4,ps:=[0] } 0 q G' (w5.heap.size,0,64,64) (splice (zeros 64) 0 z) w'):=Lib.hid HWR.out
 go_upto_region 15 with (go_at_call 130;(with_reducible refine HWR.out.mono ?_);rintro e8 w8 ⟨rfl,v8,hT8,hr8,ha8,hf8,hu8⟩)
 have HT8:=Lib.hid hT8
 have l8:(ldR 120 (.pointer (some ⟨nbk,0,none⟩))).run Tryz.prog w8=.ok (.agg (ndA { N with sz:=L,pv:=v8,ps:=[(q:Int)] })) w8:=hr8.ld0 Tryz.underlying120 rfl (by rw[ndA_size];kernel_rfl)
 have HIP:Ip (fun j=>fMut c x j∨tMut t { y with G:=G',pt:=fun j=>if j=(q:Int) then some (w5.heap.size,0,64,64) else y.pt j,np:=y.np+1,pby:=fun j=>if j=(q:Int) then splice (zeros 64) 0 z else y.pby j } j∨(¬x.bs j∧j<w0.heap.size)) w8 { N with sz:=L,pv:=v8,ps:=[(q:Int)] }:=⟨ha8,fun j e q=>by
    have:=(hf8 j e).1
    have h7:=HB7.out.size
    rcases q with q|q|q
    · have:=HH.out.fs.lt _ (HH.out.fs.bm _ q);have:=HH.out.bl.size;omega
    · have:=(HH.out.mlt (show tMut t y j from q)).2;omega
    · have:=HH.out.bl.size;omega,fun j e=>(hf8 j e).2⟩
 have HSE:=Lib.hid (set_is hT8 HX.out.1 HNN.out HIP HX.out.2.2.2.2.2.2)
 have HU8:=Lib.hid ((Upd.below (S:=tMut t y) HB7.out).trans' hu8 (fun k hk e=>e.elim id (fun e=>by have:=HNK.out;omega)))
 clear hT8 hr8 ha8 hf8 hu8 HIP HWR
 go_wp2_with fail
 rw[rounds_succ]
 go_wp2_with (go_at_call 117;(with_reducible refine HSE.out.mono ?_);rintro e9 w9 ⟨rfl,hT9,hu9⟩)
 refine bodyPost_end (results_none rfl _ _ _) rfl ⟨rfl,⟨v8,(w5.heap.size,0,64,64),?_⟩,HU8.out.trans hu9⟩
 have e1:({ (y.nd i) with sz:=(z.length:Nat),pv:=v8,ps:=[(q:Int)] }:Nd)={ N with sz:=L,pv:=v8,ps:=[(q:Int)] }:=by rw[HD.out,HL.out]
 rw[e1,← HNN.out]
 exact hT9
theorem fill0_is (h:TX w0 w c x t y) {i:Nat}(hi:i<32)(hps:(y.nd i).ps=[]) {n:Int}(hn:n=i+1) {az:Option Addr} {cz:Nat} (mz:cz≤maxLen)(hnb:y.nb<1000) :
  Calls Tryz.prog 207 #[.pointer (some ⟨t,0,none⟩),.int .i64 n,.slice az 0 cz] w fun e w'=>e=.returned (.tuple #[])∧(∃v',TX w0 w' c x t { y with nd:=ups1 y.nd i { (y.nd i) with sz:=0,pv:=v',ps:=[] },dy:=fun j=>if j=(i:Int)+1 then some () else y.dy j,nb:=y.nb+1 })∧Upd (tMut t y) w w':=by
 have HH:=Lib.hid h
 have HX:=Lib.hid (And.intro hi (And.intro hps hnb))
 have HN:=Lib.hid (node_is h hi hn)
 have HNN:=Lib.hid hn
 have HBL:=Lib.hid (fun w=>blocks0_is w)
 have mcz:(cz:Int)≤9223372036854775807:=by unfold maxLen at mz;omega
 obtain⟨N,hNd⟩:∃N,N=y.nd i:=⟨_,rfl⟩
 rw[← hNd] at HN
 have HD:=Lib.hid hNd
 have hsn:=fun w=>st0_new w (T:=120) (c:=#[.int .i64 0,.int .i64 0,.int .i64 0,.int .i64 0,.int .i64 0,.int .i64 0,.int .i64 0,.slice none 0 0]) (cs:=ndA N) rfl (by rw[ndA_size];kernel_rfl) (ndA_one N (by rw[hNd];exact ip_one (h.ps i hi)))
 clear h hi hps hnb hNd hn
 go_enter Tryz.func207,Tryz.ntmps207
 go_upto_region 1 with (go_at_call 116;refine HN.out.mono ?_;rintro e1 w1 ⟨rfl,hb1⟩;have HB1:=Lib.hid hb1;clear hb1)
 have hr2:=row_new w1 120 (ndA N)
 have hb2:Below w.heap.size w (w1.alloc (.cells (ndA N) 120)):=HB1.out.trans ((Go.Joins.below_alloc1 w1 _).mono HB1.out.size)
 have HNK:Hid (w.heap.size≤w1.heap.size):=Lib.hid HB1.out.size
 clear hsn HN HB1
 generalize w1.alloc (.cells (ndA N) 120)=w2 at *
 generalize w1.heap.size=nbk at *
 have hA2:At (Value.int .i64) 0 w2 N.pv []:=by
  have:=(HH.out.ps i HX.out.1).a.keep hb2
  rw[HX.out.2.1,← HD.out] at this
  exact this
 have c7:w2.cell? ⟨nbk,7,none⟩=some N.pv:=by rw[hr2.cell];rfl
 have HB2:=Lib.hid hb2
 have HR2:=Lib.hid hr2
 have hbl:=HBL.out w2
 have HCL:=Lib.hid (cloneI_is (by decide) hA2)
 clear hb2 hr2
 obtain⟨ap,cp,hpv,-,mcp,-⟩:=hA2
 rw[hpv] at c7
 have HCL:Hid (Calls Tryz.prog 127 #[.slice ap 0 cp] w2 (CloneI [] w2)):=Lib.hid (by have:=HCL.out;rw[hpv] at this;exact this)
 have mcp':(cp:Int)≤9223372036854775807:=by unfold maxLen at mcp;omega
 go_upto_region 3 with (first|(go_at_call 128;(with_reducible refine hbl.mono ?_);rintro e2 w3 ⟨rfl,rfl⟩;clear hbl)|(go_at_call 127;(with_reducible refine HCL.out.mono ?_);rintro e3 w3 ⟨v3,rfl,ho3,hb3⟩;obtain⟨p3,c3,rfl⟩:=own_form ho3))
 have HB3:=Lib.hid (HB2.out.trans (hb3.mono HB2.out.size))
 have HR3:=Lib.hid (HR2.out.keep hb3)
 have HZ3:Hid (w2.heap.size≤w3.heap.size∧w.heap.size≤w2.heap.size∧nbk<w2.heap.size):=Lib.hid ⟨hb3.size,HB2.out.size,HR2.out.lt⟩
 clear HB2 HR2 c7 HCL hb3
 go_wp2_with fail
 refine wp_loop_rounds 1 ?_
 rw[rounds_succ]
 go_wp2_with fail
 refine wp_loop_rounds 1 ?_
 rw[rounds_succ]
 have z7:=HR3.out.fz 7
 have z4:=HR3.out.fz 4
 have y7:=HR3.out.cell 7
 have y4:=HR3.out.cell 4
 have mc3:(c3:Int)≤9223372036854775807:=by
  rcases ho3.2 with ⟨e,_⟩|⟨g,cp',cur,e,_,_,_,m3,_⟩
  ·injection e with _ _ e;omega
  ·injection e with _ _ e;unfold maxLen at m3;omega
 have HO3:=Lib.hid ho3
 clear ho3
 go_upto_region 9 with fail
 obtain⟨w5,hw5⟩:∃w5,w5=(w3.setCell ⟨nbk,7,none⟩ (.slice p3 0 c3)).setCell ⟨nbk,4,none⟩ (.int .i64 0):=⟨_,rfl⟩
 rw[← hw5]
 have hu5:Upd (fun j=>j=nbk) w3 w5:=by rw[hw5];exact(Upd.set w3 (b:=nbk) (i:=7) _ (S:=fun j=>j=nbk) rfl).trans (Upd.set _ (b:=nbk) (i:=4) _ rfl)
 have hr5:Row w5 nbk 120 (ndA { N with sz:=0,pv:=.slice p3 0 c3,ps:=[] }):=by
  have q1:=HR3.out.setRow ((ndA N).setIfInBounds 7 (.slice p3 0 c3))
  rw[hw5,HR3.out.setCell,q1.setCell]
  exact q1.setRow _
 have hT5:TX w0 w5 c x t y:=(HH.out.keep HB3.out).far hu5 (fun k ek=>by
    subst ek
    have hj:=HNK.out
    exact⟨Nat.le_trans HH.out.bl.size hj,fun e=>by have:=(HH.out.mlt e).2;omega,fun i hi e=>by have:=(HH.out.ps i hi).lt k e;omega,fun p s e=>by have:=HH.out.ltP e;omega⟩)
 have l5:(ldR 120 (.pointer (some ⟨nbk,0,none⟩))).run Tryz.prog w5=.ok (.agg (ndA { N with sz:=0,pv:=.slice p3 0 c3,ps:=[] })) w5:=hr5.ld0 Tryz.underlying120 rfl (by rw[ndA_size];kernel_rfl)
 have ho5:w5.ownsRow w2.heap.size 3 1 (.slice p3 0 c3) 0 (([]:List Int).map i64V):=hu5.owns HO3.out (fun j e q=>by have:=(HO3.out.lt j e).1;have:=HZ3.out.2.2;omega)
 have HIP:Ip (fun j=>fMut c x j∨tMut t y j∨(¬x.bs j∧j<w0.heap.size)) w5 { N with sz:=0,pv:=.slice p3 0 c3,ps:=[] }:=⟨at_of_owned (f:=Value.int .i64) (d:=0) (xs:=[]) ho5,fun j e q=>by
    have h2:=(ho5.lt j e).1
    have h7:=HZ3.out.2.1
    rcases q with q|q|q
    · have:=HH.out.fs.lt _ (HH.out.fs.bm _ q);have:=HH.out.bl.size;omega
    · have:=(HH.out.mlt q).2;omega
    · have:=HH.out.bl.size;omega,fun j e=>(ho5.lt j e).2⟩
 have HSE:=Lib.hid (set_is hT5 HX.out.1 HNN.out HIP HX.out.2.2)
 have HU5:=Lib.hid ((Upd.below (S:=tMut t y) HB3.out).trans' hu5 (fun k hk e=>by have:=HNK.out;omega))
 clear hw5 hu5 hr5 hT5 ho5 HIP z7 z4 y7 y4 HR3
 go_wp2_with fail
 refine wp_loop_rounds 1 ?_
 rw[rounds_succ]
 go_wp2_with (go_at_call 117;(with_reducible refine HSE.out.mono ?_);rintro e9 w9 ⟨rfl,hT9,hu9⟩)
 refine bodyPost_end (results_none rfl _ _ _) rfl ⟨rfl,⟨.slice p3 0 c3,?_⟩,HU5.out.trans hu9⟩
 rw[← HD.out,← HNN.out]
 exact hT9
end
theorem equalAny_is {w:World} {v v':Value} {l l':List Int}(h64:l.length≤1000000)(hll:l'.length=l.length)(hv:At (Value.int .u8) 0 w v l)(hv':At (Value.int .u8) 0 w v' l'):Calls Tryz.prog 10 #[v,v'] w fun e w'=>∃b,e=.returned (.bool b)∧(b=true→l'=l)∧Below w.heap.size w w':=by
 have HV:=Lib.hid hv
 have HV':=Lib.hid hv'
 obtain⟨a,cap,rfl,hl,hcm,-⟩:=hv
 obtain⟨a',cap',rfl,hl',hcm',-⟩:=hv'
 obtain⟨n,hn⟩:∃n,n=l.length:=⟨_,rfl⟩
 rw[hll,← hn] at HV' hl' ⊢
 rw[← hn] at h64 hl HV
 have HN:=Lib.hid (And.intro hn (hll.trans hn.symm))
 have i0:(n:Int)≤1000000:=by omega
 clear hn h64 hcm hcm' hl hl' hll
 go_enter Tryz.func10,Tryz.ntmps10
 go_wp2_with fail
 go_loopw [13] (fun iv wr=>∃i,i≤n∧iv=.int .i64 (i:Nat)∧Hid (Below w.heap.size w wr)∧Hid (∀k,k<i→l'.getD k 0=l.getD k 0)) (fun iv _=>n-(intOf iv).toNat)
 case atStart=>exact⟨0,Nat.zero_le _,rfl,Lib.hid (Below.refl _ _),Lib.hid (fun k hk=>absurd hk (Nat.not_lt_zero k))⟩
 case round=>
  obtain⟨i,hi0,rfl,HB,HE⟩:=hrel
  by_cases hi:i<n
  ·have j0:(0:Int)≤i:=by omega
   have j1:(i:Int)<n:=by omega
   have HB1:=Lib.hid HB.out.drew
   rcases At.cellB (HV.out.keep HB1.out) with e|⟨b,o,rfl,hlt,hc⟩
   ·have:=HN.out.1;rw[e] at this;simp at this;omega
   rcases At.cellB (HV'.out.keep HB1.out) with e|⟨b',o',rfl,hlt',hc'⟩
   ·have:=HN.out.2;rw[e] at this;simp at this;omega
   have c1:=hc i (by rw[← HN.out.1];exact hi)
   have c2:=hc' i (by rw[HN.out.2];exact hi)
   obtain⟨x,hx⟩:∃x,x=l.getD i 0:=⟨_,rfl⟩
   obtain⟨x',hx'⟩:∃x,x=l'.getD i 0:=⟨_,rfl⟩
   rw[← hx] at c1
   rw[← hx'] at c2
   have HXX:=Lib.hid (And.intro hx hx')
   clear hc hc' hlt hlt' HB hx hx'
   go_upto_region 6 with fail
   by_cases hxx:x=x'
   ·subst hxx
    have HE2:Hid (∀k,k<i+1→l'.getD k 0=l.getD k 0):=Lib.hid (fun k hk=>by
          by_cases e:k=i
          · subst e;rw[← HXX.out.1,← HXX.out.2]
          · exact HE.out k (by omega))
    clear HXX HE
    go_region
    go_wp2_with fail
    go_roundw
    case rel=>exact⟨i+1,by omega,by go_num,HB1,HE2⟩
    case measure=>simp[intOf];omega
   ·go_region
    go_wp2_with fail
    go_ret
    exact⟨_,rfl,fun e=>(by cases e),HB1.out⟩
  ·obtain rfl:i=n:=by omega
   go_wp2_with fail
   go_ret
   exact⟨_,rfl,fun _=>List.ext_getElem? (fun k=>by
        have h1:=HN.out.1
        have h2:=HN.out.2
        by_cases hk:k<i
        · have:=HE.out k hk
          rw[List.getElem?_eq_getElem (by omega),List.getElem?_eq_getElem (by omega)]
          rw[List.getD_eq_getElem?_getD,List.getD_eq_getElem?_getD,List.getElem?_eq_getElem (by omega),List.getElem?_eq_getElem (by omega)] at this
          simpa using this
        · rw[List.getElem?_eq_none (by omega),List.getElem?_eq_none (by omega)]),HB.out⟩
section
variable {w0 w:World} {c:FC} {x:FM} {t:Nat} {y:TM}
theorem fits_is (h:TX w0 w c x t y):Calls Tryz.prog 118 #[.pointer (some ⟨t,0,none⟩)] w fun e w'=>e=.returned (.bool true)∧w=w':=by
 have c0:=h.c0
 have c3:=h.st.c3
 clear h
 go_enter Tryz.func118,Tryz.ntmps118
 go_wp2_with fail
 refine wp_loop_rounds 1 ?_
 rw[rounds_succ]
 go_wp2_with fail
 go_ret
 exact⟨rfl,rfl⟩
end
structure PtOff (S:Int→Prop) (k:Nat) (y y':TM):Prop where
 eq:y'={ y with pt:=y'.pt,np:=y'.np,pby:=y'.pby }
 np:y'.np≤y.np+k
 off:∀j,¬S j→y'.pt j=y.pt j∧y'.pby j=y.pby j
theorem PtOff.refl (S:Int→Prop) (k:Nat) (y:TM):PtOff S k y y:=⟨rfl,by omega,fun _ _=>⟨rfl,rfl⟩⟩
theorem PtOff.trans {S S':Int→Prop} {k k':Nat} {y y' y'':TM}(h:PtOff S k y y')(h':PtOff S' k' y' y''):PtOff (fun j=>S j∨S' j) (k+k') y y'':=by
 obtain⟨e,n,o⟩:=h
 obtain⟨e',n',o'⟩:=h'
 refine⟨?_,by omega,fun j hj=>?_⟩
 ·rw[e',e]
 ·have a:=o j (fun q=>hj (.inl q))
  have b:=o' j (fun q=>hj (.inr q))
  exact⟨b.1.trans a.1,b.2.trans a.2⟩
theorem PtOff.mono {S S':Int→Prop} {k:Nat} {y y':TM}(h:PtOff S k y y')(hS:∀j,S j→S' j):PtOff S' k y y':=⟨h.eq,h.np,fun j hj=>h.off j (fun q=>hj (hS j q))⟩
theorem PtOff.mut {S:Int→Prop} {k t:Nat} {y y':TM}(h:PtOff S k y y'):tMut t y'=tMut t y:=by rw[h.eq];rfl
theorem PtOff.sec {S:Int→Prop} {k:Nat} {x:FM} {y y':TM}(h:PtOff S k y y') {p:Nat}(hp:¬S p):tsec x y' p=tsec x y p:=by
 unfold tsec
 rw[(h.off p hp).1,(h.off p hp).2]
section
variable {w0 w:World} {c:FC} {x:FM} {t:Nat} {y:TM}
theorem differ_is (h:TX w0 w c x t y) {p:Nat}(hp:p<256) {n:Int}(hn:n=p) {v:Value} {l:List Int}(hv:At (Value.int .u8) 0 w v l)(hl:l.length=64)(hnp:y.np<1000)(hpt:y.pt n=none) :
  Calls Tryz.prog 198 #[.pointer (some ⟨t,0,none⟩),.int .i64 n,v] w fun e w'=>e=.returned (.tuple #[])∧(∃y',TX w0 w' c x t y'∧PtOff (fun j=>j=n) 1 y y'∧tsec x y' p=l)∧Upd (tMut t y) w w':=by
 have HS:=Lib.hid (sectorF_is h.st hp hn)
 have c0:=h.c0
 have HH:=Lib.hid h
 have HV:=Lib.hid hv
 have HX:=Lib.hid (And.intro hl (And.intro hnp (And.intro hpt (And.intro hn (fsec_len h.fs hp)))))
 clear h hv hl hnp hpt hn
 go_enter Tryz.func198,Tryz.ntmps198
 go_upto_region 1 with (go_at_call 261;(with_reducible refine HS.out.mono ?_);rintro e1 w1 ⟨v1,rfl,ho1,hb1⟩)
 have HB1:=Lib.hid hb1
 have HV1:=Lib.hid (HV.out.keep hb1)
 have HE:=Lib.hid (equalAny_is (w:=w1) (by rw[HX.out.2.2.2.2];decide) (by rw[HX.out.1,HX.out.2.2.2.2]) ho1.at HV1.out)
 clear ho1 hb1 HS c0
 go_upto_region 2 with (go_at_call 10;(with_reducible refine HE.out.mono ?_);rintro e2 w2 ⟨b,rfl,hbe,hb2⟩;have HB2:=Lib.hid (HB1.out.trans (hb2.mono HB1.out.size));have HBE:=Lib.hid hbe;clear HE hb2 hbe)
 rotate_left
 ·have hb:b=true:=by rename_i hq;simpa using hq
  subst hb
  refine bodyPost_end (results_none rfl _ _ _) rfl ⟨rfl,⟨y,HH.out.keep HB2.out,PtOff.refl _ _ _,?_⟩,Upd.below HB2.out⟩
  have e:=HX.out.2.2.1
  rw[HX.out.2.2.2.1] at e
  unfold tsec
  rw[e]
  exact(HBE.out rfl).symm
 ·have hb:b=false:=by rename_i hq;simpa using hq
  subst hb
  have hT2:=HH.out.keep (HB2.out.drew)
  have HCL:=Lib.hid (cloneB_is (w:=w2.drew) (by rw[HX.out.1];decide) (HV.out.keep HB2.out.drew))
  have c5:=hT2.c5
  have HT2:=Lib.hid hT2
  clear hT2
  have HP:Hid (∀w3 v3,CloneB l w2.drew (.returned v3) w3→∃w4 s,TX w0 w3 c x t y∧v3=encS (some s)∧(Instr.mapUpdate 134 (.map (some y.pb)) (.int .i64 n) v3).run Tryz.prog w3=.ok () w4∧TX w0 w4 c x t { y with pt:=fun j=>if j=n then some s else y.pt j,np:=y.np+1,pby:=fun j=>if j=n then l else y.pby j }∧Upd (tMut t y) w3 w4):=Lib.hid (by
      rintro w3 v3 ⟨v3',e,ho,hb⟩
      injection e with e
      subst e
      have hT3:=HT2.out.keep hb
      rw[HX.out.1] at ho
      obtain⟨p3,c3,e3⟩:=own_form ho
      subst e3
      obtain⟨g,e,hg0,hg1,hg2,hg3⟩:=own_block ho (by decide)
      subst e
      have hI:Im (fun j=>fMut c x j∨tMut t y j) w3 (encS (some (g,0,64,c3))) l:=⟨by
          have:=(show OB w2.drew.heap.size w3 (.slice (some ⟨g,0,none⟩) 64 c3) l by unfold OB;rw[HX.out.1];exact ho).at
          exact this,fun j e q=>by
          have e:g=j:=by simpa [encS,Value.ownBlock] using e
          subst e
          have hz:=HB2.out.drew.size
          rcases q with q|q
          · have:=HH.out.fs.lt _ (HH.out.fs.bm _ q);have:=HH.out.bl.size;omega
          · have:=(HH.out.mlt q).2;omega⟩
      obtain⟨w4,hput,hm4,hg4⟩:=hT3.pb.put (T:=134) Tryz.underlying134 (k:=n) (WalkArith.wf_i64 (by have:=HX.out.2.2.2.1;omega)) (by have:=HX.out.2.1;unfold maxLen;omega) (g,0,64,c3)
      have hT4:=hT3.puts (fb:=fun j=>if j=n then l else y.pby j) hg4 hm4 (fun q s' e=>by
        by_cases e2:q=n
        · rw[if_pos e2] at e
          injection e with e
          subst e
          right
          rw[if_pos e2]
          refine⟨hI,HX.out.1,?_⟩
          have:=HH.out.bl.size
          have hz:=HB2.out.drew.size
          show w0.heap.size≤g
          omega
        · rw[if_neg e2] at e
          left
          exact⟨e,if_neg e2⟩)
      exact⟨w4,_,hT3,rfl,hput,hT4,Upd.grown hg4 (.inr (.inr (.inr (.inl rfl))))⟩)
  go_region_law (go_simp;go_at_call 105;refine HCL.out.mono ?_;rintro e3 w3 ⟨v3,rfl,ho3,hb3⟩;obtain⟨w4,s,hT3,hv3,hput,hT4,hu4⟩:=HP.out w3 v3 ⟨v3,rfl,ho3,hb3⟩;have d5:=hT3.c5;have HT4:=Lib.hid hT4;have HU4:=Lib.hid hu4;have HB3:=Lib.hid hb3;have HV3:=Lib.hid hv3;clear hT3 hT4 hu4 hv3 hb3 ho3)
  all_goals
   go_wp2_with fail
   refine bodyPost_end (results_none rfl _ _ _) rfl ⟨rfl,⟨_,HT4.out,⟨rfl,Nat.le_refl _,fun j hj=>⟨if_neg hj,if_neg hj⟩⟩,?_⟩,(Upd.below (HB2.out.drew.trans (HB3.out.mono HB2.out.drew.size))).trans HU4.out⟩
   unfold tsec
   rw[← HX.out.2.2.2.1]
   simp
end
theorem skI (j k:Int):decide (j=k)=(Lit.int .i64 j).sameKey (.int .i64 k):=by
 simp[Lit.sameKey]
section
variable {ι:Type} {c:MCode ι}
def CRng (c:MCode ι) (w:World) (b r n:Nat) (f:Int→Option ι) (lf:Int→Bool) (cnt:Nat):Prop:=
 ∃(D:DataW Unit) (left:Lit→Bool),w.ranges Tryz.prog 3 c.red b r n D left cnt∧IsMap D∧(∀k,D.atKey (.int .i64 k) .nil=c.dat (f k)∧Maps.has D (.int .i64 k)=(f k).isSome)∧∀k,lf k=left (.int .i64 k)
theorem CRng.left {w:World} {b r n cnt:Nat} {f:Int→Option ι} {lf:Int→Bool}(h:CRng c w b r n f lf cnt):w.rangeLeft b r=cnt:=by
 obtain⟨D,left,h1,h2,h3,_⟩:=h
 exact h1.left_eq
theorem CRng.rlt {w:World} {b r n cnt:Nat} {f:Int→Option ι} {lf:Int→Bool}(h:CRng c w b r n f lf cnt):r<w.heap.size:=by
 obtain⟨D,left,h1,h2,h3,_⟩:=h
 exact h1.lt
theorem CRng.kept {w w':World} {b r n cnt:Nat} {f:Int→Option ι} {lf:Int→Bool} {row:Option Nat}(h:CRng c w b r n f lf cnt)(hg:w.grownBy w' row)(h1:some b≠row)(h2:some r≠row):CRng c w' b r n f lf cnt:=by
 obtain⟨D,left,q1,q2,q3,q4⟩:=h
 exact⟨D,left,q1.kept hg h1 h2,q2,q3,q4⟩
variable (w:World) {ops:Array Oper} {rest:List Oper} {o:Oper} {a:Act} {Q:Exit→Act→World→Prop}
theorem wpList_range_c (hg:o.guard=none) (m:Operand) (t:TypeId)(hop:o.op=Op.range t m) (e:TypeId)(ht:Tryz.prog.underlying t=some (.map 3 e)) {b n:Nat} {f:Int→Option ι}
  (hm:a.eval m=.map (some b)) (h:CMap c w b n f)
  (hK:∀w' cnt,cnt≤n→CRng c w' b w.heap.size n f (fun k=>(f k).isSome) cnt→w.grownBy w' none→w'.heap.size=w.heap.size+1→wpList Tryz.prog ops Q rest (a.put o.dst (.pointer (some ⟨w.heap.size,0,none⟩))) w') :
  wpList Tryz.prog ops Q (o::rest) a w:=by
 obtain⟨D,hD,hm',hf⟩:=h
 refine wpList_range_own w hg m t hop 3 e keyed3 ht c.red b n D hm hD ?_
 intro w' h1 h2 h3
 exact hK w' _ hD.size_le ⟨D,_,h1,hm',hf,fun k=>(hf k).2.symm⟩ h2 h3
theorem wpList_next_c (hg:o.guard=none) (it:Operand)(hop:o.op=Op.next it false) {b r n cnt:Nat} {f:Int→Option ι} {lf:Int→Bool}
  (hit:a.eval it=.pointer (some ⟨r,0,none⟩)) (h:CRng c w b r n f lf cnt)
  (hDone:(∀k,lf k=false)→wpList Tryz.prog ops Q rest (a.put o.dst (.tuple #[.bool false])) w)
  (hMore:∀(k:Int) (x:ι) (w':World) (cnt':Nat),(Lit.int .i64 k).wf=true→lf k=true→f k=some x→CRng c w' b r n f (fun j=>lf j && !decide (j=k)) cnt'→cnt'<cnt →
      w.grownBy w' (some r)→w'.heap.size=w.heap.size→(Instr.entry (.pointer (some ⟨r,0,none⟩))).run Tryz.prog w'=.ok (.tuple #[.int .i64 k,c.enc (some x)]) w'→wpList Tryz.prog ops Q rest (a.put o.dst (.tuple #[.bool true,.int .i64 k,c.enc (some x)])) w') :
  wpList Tryz.prog ops Q (o::rest) a w:=by
 obtain⟨D,left,q1,q2,q3,q4⟩:=h
 refine wpList_next_ranges w hg it hop 3 keyed3 c.red (Value.int .i64) c.enc (fun key kl hk=>?_) (fun v y hv=>c.red_some hv) b r n D left cnt hit q1 (fun _ hl=>hDone fun k=>by rw[q4,hl]) ?_
 ·obtain⟨x,rfl,_⟩:=Maps.keyOf_int_inv Tryz.underlying3 hk
  exact⟨x,rfl⟩
 ·intro k ox kl y w' cnt' hkey hlk hR hat hrg hlt hgr hsz hen
  obtain⟨k',ek,rfl,hwf⟩:=Maps.keyOf_int_inv Tryz.underlying3 hkey
  injection ek with _ ek
  subst ek
  have hy:y.1=c.dat ox:=by
   have hR':=Option.some.inj ((c.red_enc ox).symm.trans hR)
   exact congrArg Prod.fst hR'.symm
  have hfk:f k=ox:=c.di _ _ (by rw[← (q3 k).1,hat .nil,hy])
  have hhas:Maps.has D (.int .i64 k)=true:=by
   rcases e:Maps.has D (.int .i64 k) with _|_
   ·exfalso
    have e1:=(atKey_of_not_has e .nil).symm.trans (hat .nil)
    have e2:=(atKey_of_not_has e (.lit (.bool true))).symm.trans (hat (.lit (.bool true)))
    exact absurd (e1.trans e2.symm) (by intro q;cases q)
   ·rfl
  rw[(q3 k).2,hfk] at hhas
  obtain⟨x,rfl⟩:=Option.isSome_iff_exists.1 hhas
  refine hMore k x w' cnt' hwf (by rw[q4];exact hlk) hfk ⟨D,_,hrg,q2,q3,fun j=>?_⟩ hlt hgr hsz hen
  have e0:decide (j=k)=(Lit.int .i64 j).sameKey (.int .i64 k):=skI j k
  show (lf j && !decide (j=k))=_
  rw[e0,q4 j]
end
end Go.Proofs.YtfkepfncgdlgoaaGreatDoor
