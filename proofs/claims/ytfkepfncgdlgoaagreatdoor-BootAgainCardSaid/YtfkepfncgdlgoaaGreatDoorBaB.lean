/- The kernel's write into "g". Printed by gen_gak.py. A disk and what waits there, with its bytes; the walk of disk's Write that tells it. The walks of package journal: sum, Sum, word; writes as an argument. -/
import Derived.Test.YtfkepfncgdlgoaaGreatDoorGaJ
import Derived.Test.YtfkepfncgdlgoaaGreatDoorGaA
import Derived.Test.YtfkepfncgdlgoaaGreatDoorSprE
import Derived.Test.YtfkepfncgdlgoaaGreatDoorSnapU
import Derived.Test.YtfkepfncgdlgoaaGreatDoorSprB
namespace Go.Proofs.YtfkepfncgdlgoaaGreatDoor
open Go.RowKit Go.Maps
open Go.RowKit
set_option linter.unusedVariables false
set_option linter.unusedSimpArgs false
set_option maxRecDepth 100000
set_option maxHeartbeats 2000000
def thG (a:Int):Array Value:=#[.int .i64 1,.int .i64 3,.int .i64 3,.bool false,.int .i64 a]
section
variable {w:World} {k:KC} {s:KSt} {fc:FC} {x:FM} {p:Nat} {A:Array Value}
attribute [local go_sem ↓] ld_ans st_ans ld_call bd_ans
theorem kwriteG_is (h:KF w k s fc x) (p1:1≤p) (p16:p≤16) {q0:Nat} {m:Int}(hf:FileG x q0 m)(hm:0≤m∧m≤511) {j k0:Nat}(hj:j<8)(hd:s.fd (p*8+j)=k0+1)(hA1:A[1]?=some (.int .i64 j)) {z:List Int} {ad:Option Addr} {cp:Nat}(hA6:A[6]?=some (.slice ad z.length cp))(hz:At (Value.int .u8) 0 w (.slice ad z.length cp) z)(hz2:z.length≤100) :
  Calls Tryz.prog 81 #[.pointer (some ⟨k.K,0,none⟩),.int .i64 p,.agg A,.agg (thG 0)] w fun e w'=>e=.returned (.agg (ansV 0 z.length 0 (.slice none 0 0)))∧∃x',KF w' k (SeekTo s k0 z.length) fc x'∧SameD x x'∧x'.held=x.held∧x'.nh=x.nh∧Upd (fun i=>i=k.Fi∨x.bs i∨w.heap.size≤i) w w'∧∀i,x'.bs i→x.bs i∨w.heap.size≤i:=by
 obtain⟨hb,r1,r2,r3⟩:=alloc3r w A (thG 0)
 have h1:=h.keep hb
 have a6:=(r1.cell 6).trans hA6
 have t0:=(r2.cell 0).trans (show (thG 0)[0]?=some (.int .i64 1) from rfl)
 have t1:=(r2.cell 1).trans (show (thG 0)[1]?=some (.int .i64 3) from rfl)
 have t2:=(r2.cell 2).trans (show (thG 0)[2]?=some (.int .i64 3) from rfl)
 have t3:=(r2.cell 3).trans (show (thG 0)[3]?=some (.bool false) from rfl)
 have t4:=(r2.cell 4).trans (show (thG 0)[4]?=some (.int .i64 0) from rfl)
 have HH:=Lib.hid h
 have H1:=Lib.hid h1
 have HB:=Lib.hid hb
 have HR1:=Lib.hid r1
 have HR2:=Lib.hid r2
 have HR3:=Lib.hid r3
 have HX:=Lib.hid (And.intro hA1 (And.intro hA6 (And.intro hj (And.intro hd (And.intro p1 p16)))))
 have HWZ:=Lib.hid (fun wx (hbx:Below w.heap.size w wx)=>writeGZ_is (h.keep hbx).fs hf hm (hz.keep hbx) hz2)
 have hcm:(cp:Int)≤9223372036854775807:=by
  obtain⟨a',c',e,-,h2,-⟩:=hz
  injection e with _ _ e
  subst e
  unfold maxLen at h2
  omega
 have i2:¬(256:Int)<z.length:=by omega
 have HZL:=Lib.hid hz2
 have hFi:k.Fi<w.heap.size:=h.kt.lt (by rw[h.kt.tFi];decide)
 clear h h1 hf hm hj hd hA1 hA6 hz hz2 hb r1 r2 r3 p1 p16
 have hz0:ansZ=#[.int .i64 0,.int .i64 0,.int .i64 0,.slice none 0 0,.slice none 0 0,.int .i64 0,.int .i64 0,.int .i64 0,.int .i64 0,.int .i64 0,.int .i64 0]:=rfl
 have hz1:thG 0=#[.int .i64 1,.int .i64 3,.int .i64 3,.bool false,.int .i64 0]:=rfl
 obtain⟨L,hL⟩:∃L,L=z.length:=⟨_,rfl⟩
 rw[← hL] at a6 HX HWZ i2 HZL ⊢
 have HL:=Lib.hid hL
 clear hL
 rw[hz0,hz1] at a6 t0 t1 t2 t3 t4
 rw[hz0,hz1] at HB H1 HR1 HR2
 rw[hz1] at HR3 ⊢
 go_enter Tryz.func81,Tryz.ntmps81
 go_upto_region 1 with fail
 have HR3:Hid (Row (((w.alloc (.cells A 38)).alloc (.cells #[.int .i64 1,.int .i64 3,.int .i64 3,.bool false,.int .i64 0] 160)).alloc (.cells #[.int .i64 0,.int .i64 0,.int .i64 0,.slice none 0 0,.slice none 0 0,.int .i64 0,.int .i64 0,.int .i64 0,.int .i64 0,.int .i64 0,.int .i64 0] 35)) (w.heap.size+2) 35 ansZ):=HR3
 generalize (((w.alloc (.cells A 38)).alloc (.cells #[.int .i64 1,.int .i64 3,.int .i64 3,.bool false,.int .i64 0] 160)).alloc (.cells #[.int .i64 0,.int .i64 0,.int .i64 0,.slice none 0 0,.slice none 0 0,.int .i64 0,.int .i64 0,.int .i64 0,.int .i64 0,.int .i64 0,.int .i64 0] 35))=w1 at *
 go_upto_region 16 with fail
 clear t0 t2 t3 t4
 have hzz:∀i,x.bs i→i<w.heap.size:=HH.out.fs.lt
 have hne:∀i,w.heap.size≤i→¬x.bs i:=fun i hi e=>by have:=hzz i e;omega
 have hKb:¬x.bs k.K:=fun e=>by have:=HH.out.sep _ e;rw[HH.out.kt.tK] at this;cases this
 have c2:=H1.out.fsp
 have HS:Hid (∀wx,Below w1.heap.size w1 wx→(wx.cell? ⟨k.K,2,none⟩=some (.pointer (some ⟨fc.F,0,none⟩))∧wx.cell? ⟨w.heap.size+1,1,none⟩=some (.int .i64 3)∧wx.cell? ⟨w.heap.size,6,none⟩=some (.slice ad L cp))):=Lib.hid (fun wx hb=>by
    have lt:∀ {b o v},w1.cell? ⟨b,o,none⟩=some v→b<w1.heap.size:=fun e=>World.block_lt_of_cell? w1 _ e
    exact⟨(hb.cell (p:=⟨k.K,2,none⟩) (lt c2)).trans c2,(hb.cell (p:=⟨w.heap.size+1,1,none⟩) (lt t1)).trans t1,(hb.cell (p:=⟨w.heap.size,6,none⟩) (lt a6)).trans a6⟩)
 have HS2:Hid (∀wx w',Below w1.heap.size w1 wx→Upd x.bs wx w'→(w'.cell? ⟨k.K,2,none⟩=some (.pointer (some ⟨fc.F,0,none⟩))∧w'.cell? ⟨w.heap.size+1,1,none⟩=some (.int .i64 3)∧w'.cell? ⟨w.heap.size,6,none⟩=some (.slice ad L cp))):=Lib.hid (fun wx w' hb hu=>by
    obtain⟨q1,q2,q3⟩:=HS.out wx hb
    have lt:∀ {b o v},wx.cell? ⟨b,o,none⟩=some v→b<wx.heap.size:=fun e=>World.block_lt_of_cell? wx _ e
    exact⟨(hu.cell (lt q1) hKb).trans q1,(hu.cell (lt q2) (hne _ (Nat.le_succ _))).trans q2,(hu.cell (lt q3) (hne _ (Nat.le_refl _))).trans q3⟩)
 clear c2 a6 t1
 go_region_held3 (fun wx=>wx.cell? ⟨k.K,2,none⟩=some (.pointer (some ⟨fc.F,0,none⟩))∧wx.cell? ⟨w.heap.size+1,1,none⟩=some (.int .i64 3)∧wx.cell? ⟨w.heap.size,6,none⟩=some (.slice ad L cp)) (first|(with_reducible exact HS.out _ (Below.refl _ _))|(with_reducible exact HS.out _ (Below.refl _ _).drew)|(with_reducible exact HS2.out _ _ (Below.refl _ _).drew HU2.out)|fail) (first|(go_at_call 60;(with_reducible refine(HWZ.out _ HB.out.drew).mono ?_);rintro e2 v2 ⟨rfl,x2,hf2,hz2,hh2,hn2,hs2,hu2⟩;have HU2:=Lib.hid hu2;have HF2:=Lib.hid (And.intro hf2 (And.intro hz2 (And.intro hh2 (And.intro hn2 hs2))));clear hf2 hz2 hh2 hn2 hs2 hu2)|fail)
 have HS2b:Hid (∀i,x2.bs i→x.bs i∨w1.heap.size≤i):=Lib.hid HF2.out.2.2.2.2
 have hud:Upd x.bs w1 v2:=(Upd.drew w1).trans HU2.out
 have HK2:Hid (KF v2 k s fc x2):=Lib.hid ⟨H1.out.kt.upd hud (fun j hj e=>hj (H1.out.sep j e)),H1.out.c2,HF2.out.1,fun j e=>(HS2b.out j e).elim (H1.out.sep j) (H1.out.kt.tz j)⟩
 have hlt1:w.heap.size+2<w1.heap.size:=HR3.out.lt
 have HC2:=Lib.hid (HR1.out.upd hud (hne _ (Nat.le_refl _)))
 have HR2:=Lib.hid (HR3.out.upd hud (hne _ (by omega)))
 have HUD:=Lib.hid hud
 have HLT:=Lib.hid hlt1
 clear hud hlt1 HS HS2 HWZ HU2
 have HT:Hid (∀wx,Below v2.heap.size v2 wx→(wx.cell? ⟨k.K,6,none⟩=some (.pointer (some ⟨k.Fi,0,none⟩))∧wx.cell? ⟨w.heap.size,1,none⟩=some (.int .i64 j))):=Lib.hid (fun wx hb=>⟨by rw[(HK2.out.keep hb).kt.kr.cell (by decide),HK2.out.kt.c6],((HC2.out.keep hb).cell 1).trans HX.out.1⟩)
 have hKF:k.K≠k.Fi:=fun e=>by
  have t1:=HH.out.kt.tK
  rw[e,HH.out.kt.tFi] at t1
  cases t1
 have HT4:Hid (∀wx w',Below v2.heap.size v2 wx→Upd (fun i=>i=k.Fi) wx w'→(w'.cell? ⟨k.K,6,none⟩=some (.pointer (some ⟨k.Fi,0,none⟩))∧w'.cell? ⟨w.heap.size,1,none⟩=some (.int .i64 j))):=Lib.hid (fun wx w' hb hu=>by
    obtain⟨t1,t2⟩:=HT.out wx hb
    have lt:∀ {b o v},wx.cell? ⟨b,o,none⟩=some v→b<wx.heap.size:=fun e=>World.block_lt_of_cell? wx _ e
    exact⟨(hu.cell (lt t1) hKF).trans t1,(hu.cell (lt t2) (by omega)).trans t2⟩)
 have HSK:Hid (∀wx,Below v2.heap.size v2 wx→Calls Tryz.prog 82 #[.pointer (some ⟨k.Fi,0,none⟩),.int .i64 p,.int .i64 j,.int .i64 L] wx fun e w'=>e=.returned (.int .i64 0)∧OpenLaw.OTab w' k.Fi (OpenLaw.updF s.fs k0 { s.fs k0 with pos:=L }) s.fd∧Upd (fun i=>i=k.Fi) wx w'):=Lib.hid (fun wx hb=>by
    refine(OpenLaw.seek_is (HK2.out.keep hb).kt.fi HX.out.2.2.2.2.1 HX.out.2.2.2.2.2 HX.out.2.2.1 HX.out.2.2.2.1 (at':=(L:Int)) (by omega) (by have:=HZL.out;omega)).mono ?_
    rintro e w' ⟨rfl,hkb,ho⟩
    exact⟨rfl,ho,kb_upd hkb rfl⟩)
 have y0:IntKind.i64.wrap (0+(L:Int))=L:=by rw[IntWalk.i64_in _ (by have:=HZL.out;omega)];omega
 have y1:IntKind.i64.wrap (L:Int)=L:=IntWalk.i64_in _ (by have:=HZL.out;omega)
 go_upto_region 19 with fail
 go_region_held3 (fun wx=>wx.cell? ⟨k.K,6,none⟩=some (.pointer (some ⟨k.Fi,0,none⟩))∧wx.cell? ⟨w.heap.size,1,none⟩=some (.int .i64 j)) (first|(with_reducible exact HT.out _ (Below.refl _ _))|(with_reducible exact HT.out _ (Below.refl _ _).drew)|(with_reducible exact HT4.out _ _ (Below.refl _ _).drew HU4.out)|fail) (first|(go_at_call 82;(with_reducible refine(HSK.out _ (Below.refl _ _).drew).mono ?_);rintro e4 v4 ⟨rfl,ho4,hu4⟩;have HU4:=Lib.hid hu4;have HO4:=Lib.hid ho4;clear ho4 hu4)|fail)
 have HK4:Hid (KF v4 k (SeekTo s k0 L) fc x2):=Lib.hid ((HK2.out.keep (Below.refl _ _).drew).files HO4.out HU4.out)
 have hr4:=HR2.out.drew.upd HU4.out (by omega)
 obtain⟨hX,hone⟩:=ansN3' 0 (L:Int) 0
 have hst:=ans_st hr4 hX hone
 have HLD:=Lib.hid (ans_ldV hr4 hX)
 have hbd:=bd_aI (L:Int)
 have hu5:Upd (fun i=>i=w.heap.size+2) v4 (v4.setRow (w.heap.size+2) (ansV 0 L 0 (.slice none 0 0))):=Upd.setRow v4 _ rfl
 have HFIN:Hid (KF (v4.setRow (w.heap.size+2) (ansV 0 L 0 (.slice none 0 0))) k (SeekTo s k0 L) fc x2∧SameD x x2∧x2.held=x.held∧x2.nh=x.nh∧Upd (fun i=>i=k.Fi∨x.bs i∨w.heap.size≤i) w (v4.setRow (w.heap.size+2) (ansV 0 L 0 (.slice none 0 0)))∧∀i,x2.bs i→x.bs i∨w.heap.size≤i):=Lib.hid (by
    have hlt1:=HLT.out
    have hz:∀i,s.tag i≠0→i<w.heap.size:=fun i e=>HH.out.kt.lt e
    refine⟨HK4.out.upd hu5 (fun i hi e=>?_) (fun i hi e=>?_),HF2.out.2.1,HF2.out.2.2.1,HF2.out.2.2.2.1,?_,fun i e=>(HS2b.out i e).imp_right fun q=>by omega⟩
    · have:=hz i hi;omega
    · rcases HS2b.out i hi with q|q
      · have:=hzz i q;omega
      · omega
    · exact(((Upd.below HB.out).trans (HUD.out.mono fun i _ e=>.inr (.inl e))).trans (Upd.drew v2)).trans ((HU4.out.mono fun i _ e=>.inl e).trans (hu5.mono fun i _ e=>.inr (.inr (by omega)))))
 clear hr4 hX hone hu5 HK4 HU4 HO4 HT HT4 HSK hFi hKF hzz hne hKb
 generalize hZ:ansV 0 (L:Int) 0 (.slice none 0 0)=Z at hst HLD hbd HFIN ⊢
 have HZ:=Lib.hid hZ
 clear hZ
 go_wp2_with fail
 exact bodyPost_ret (v:=.agg Z) (by rw[results_cell1 rfl];simp[asAddr,Result.andThen,HLD.out]) rfl ⟨by rw[HZ.out],x2,HFIN.out⟩
end
section
variable {w0 w:World} {Out:World→Array Value→World→Prop} {k:KC} {s:KSt} {fc:FC} {x:FM} {p b0 b1 b2:Nat} {A:Array Value}
attribute [local go_sem ↓] bd_ans ld_ans st_ans ld_call ld_thg st_thg
theorem descWG_is (ok:OutOk w0 Out)(h:KF w0 k s fc x) (p1:1≤p) (p16:p≤16) {j k0:Nat}(hj:j<8)(hd:s.fd (p*8+j)=k0+1) {a:Int}(hF:OpenLaw.thing (s.fs k0)=.agg (thG a))(hA:A.size=7)(ha:A[0]?=some (.int .i64 8))(ha1:A[1]?=some (.int .i64 j))(hs:Spec w0 Out 81 #[.pointer (some ⟨k.K,0,none⟩),.int .i64 p,.agg A,.agg (thG a)]) :
  Spec w0 Out 37 #[.pointer (some ⟨k.K,0,none⟩),.int .i64 p,.agg A]:=by
 intro w h0
 obtain⟨hb,r1,r2⟩:=alloc2f w (.cells A 38) (.cells ansZ 35)
 have d0:=cell_of_row _ w.heap.size 0 _ _ (0,0) r1
 rw[ha] at d0
 have d1:=cell_of_row _ w.heap.size 1 _ _ (0,0) r1
 rw[ha1] at d1
 have h01:=h0.trans (hb.mono h0.size)
 have q6:((w.alloc (.cells A 38)).alloc (.cells ansZ 35)).cell? ⟨k.K,6,none⟩=some (.pointer (some ⟨k.Fi,0,none⟩)):=by rw[(h.keep h01).kt.kr.cell (by decide),h.kt.c6]
 have hz1:thG a=#[.int .i64 1,.int .i64 3,.int .i64 3,.bool false,.int .i64 a]:=rfl
 rw[hz1] at hF hs
 have HG:Hid (∀wx,Below ((w.alloc (.cells A 38)).alloc (.cells ansZ 35)).heap.size ((w.alloc (.cells A 38)).alloc (.cells ansZ 35)) wx→Calls Tryz.prog 79 #[.pointer (some ⟨k.Fi,0,none⟩),.int .i64 p,.int .i64 j] wx fun e w'=>e=.returned (.tuple #[.agg #[.int .i64 1,.int .i64 3,.int .i64 3,.bool false,.int .i64 a],.int .i64 0])∧Below wx.heap.size wx w'):=Lib.hid fun wx hx=>hF ▸ OpenLaw.get_is ((h.keep h01).keep hx).kt.fi p1 p16 hj hd
 have HR1:Hid (Row ((w.alloc (.cells A 38)).alloc (.cells ansZ 35)) w.heap.size 38 A):=Lib.hid r1
 have HR:Hid (Row ((w.alloc (.cells A 38)).alloc (.cells ansZ 35)) (w.heap.size+1) 35 ansZ):=Lib.hid r2
 have HB:=Lib.hid hb
 have HC:=Lib.hid hs
 have HOK:=Lib.hid ok
 have H0:=Lib.hid h0
 have HK:=Lib.hid h.kt.kr.lt
 have HLT:Hid (w.heap.size+1<((w.alloc (.cells A 38)).alloc (.cells ansZ 35)).heap.size):=Lib.hid HR.out.lt
 have HAS:=Lib.hid hA
 clear hb r1 r2 hA ha hs ok h0 h hd hF h01 p1 p16 hj
 have hzz:ansZ=#[.int .i64 0,.int .i64 0,.int .i64 0,.slice none 0 0,.slice none 0 0,.int .i64 0,.int .i64 0,.int .i64 0,.int .i64 0,.int .i64 0,.int .i64 0]:=rfl
 rw[hzz] at d0 d1 q6 HG HR1 HB HLT
 have HR:Hid (Row ((w.alloc (.cells A 38)).alloc (.cells #[.int .i64 0,.int .i64 0,.int .i64 0,.slice none 0 0,.slice none 0 0,.int .i64 0,.int .i64 0,.int .i64 0,.int .i64 0,.int .i64 0,.int .i64 0] 35)) (w.heap.size+1) 35 ansZ):=HR
 go_enter Tryz.func37,Tryz.ntmps37
 go_upto_region 1 with fail
 generalize (w.alloc (.cells A 38)).alloc (.cells #[.int .i64 0,.int .i64 0,.int .i64 0,.slice none 0 0,.slice none 0 0,.int .i64 0,.int .i64 0,.int .i64 0,.int .i64 0,.int .i64 0,.int .i64 0] 35)=w1 at *
 go_upto_region 16 with fail
 have HKK:Hid (∀w2,Below w1.heap.size w1 w2→w2.cell? ⟨k.K,6,none⟩=some (.pointer (some ⟨k.Fi,0,none⟩))∧w2.cell? ⟨w.heap.size,1,none⟩=some (.int .i64 j)):=Lib.hid fun w2 hu=>⟨(hu.cell (p:=⟨k.K,6,none⟩) (World.block_lt_of_cell? w1 _ q6)).trans q6,(hu.cell (p:=⟨w.heap.size,1,none⟩) (World.block_lt_of_cell? w1 _ d1)).trans d1⟩
 have hbd:=(Below.refl w1.heap.size w1).drew
 have hbz:=Go.Joins.below_alloc1 w1 (.cells #[.int .i64 0,.int .i64 0,.int .i64 0,.bool false,.int .i64 0] 160)
 have hS1:=HKK.out _ hbz.drew
 go_region_held3 (fun wx=>wx.cell? ⟨k.K,6,none⟩=some (.pointer (some ⟨k.Fi,0,none⟩))∧wx.cell? ⟨w.heap.size,1,none⟩=some (.int .i64 j)) (first|exact⟨q6,d1⟩|exact hS1|exact hS2|exact hS3|exact hS4|assumption)
  (first|((go_at_call 79;(with_reducible refine(HG.out w1.drew hbd).mono ?_);rintro e2 w2 ⟨rfl,hb2⟩;have hb2:=hbd.trans hb2;have hb3:=hb2.trans ((Go.Joins.below_alloc1 w2 (.cells #[.int .i64 0,.int .i64 0,.int .i64 0,.bool false,.int .i64 0] 160)).mono hb2.size);have hst:=st0_new w2 (T:=160) (c:=#[.int .i64 0,.int .i64 0,.int .i64 0,.bool false,.int .i64 0]) (cs:=#[.int .i64 1,.int .i64 3,.int .i64 3,.bool false,.int .i64 a]) rfl (by kernel_rfl) (by simp[Value.oneCell']);have hb4:=hb2.trans ((Go.Joins.below_alloc1 w2 (.cells #[.int .i64 1,.int .i64 3,.int .i64 3,.bool false,.int .i64 a] 160)).mono hb2.size);have hS2:=HKK.out w2 hb2;have hS3:=HKK.out _ hb3;have hS4:=HKK.out _ hb4;have HB4:=Lib.hid hb4;have HRT:=Lib.hid (row_new w2 160 #[.int .i64 1,.int .i64 3,.int .i64 3,.bool false,.int .i64 a]);clear hb2 hb3 hb4;obtain⟨w5,hw5⟩:∃w5,w5=w2.alloc (.cells #[.int .i64 1,.int .i64 3,.int .i64 3,.bool false,.int .i64 a] 160):=⟨_,rfl⟩;rw[← hw5] at hst hS4 HB4 HRT;clear hw5))|((go_at_call 79;(with_reducible refine(HG.out _ hbz.drew).mono ?_);rintro e2 w2 ⟨rfl,hb2⟩;have hr2:=(row_new w1 160 #[.int .i64 0,.int .i64 0,.int .i64 0,.bool false,.int .i64 0]).drew.keep hb2;have hst:=hr2.st0 (cs:=#[.int .i64 1,.int .i64 3,.int .i64 3,.bool false,.int .i64 a]) rfl (by kernel_rfl) (by simp[Value.oneCell']);have hb2:=hbz.drew.trans (hb2.mono hbz.drew.size);have hb4:Below w1.heap.size w1 (w2.setRow w1.heap.size #[.int .i64 1,.int .i64 3,.int .i64 3,.bool false,.int .i64 a]):=((Upd.below (S:=fun k=>k=w1.heap.size) hb2).trans (Upd.setRow _ _ rfl)).toBelow (Nat.le_refl _) (fun k hk e=>by omega);have hS2:=HKK.out w2 hb2;have hS4:=HKK.out _ hb4;have HB4:=Lib.hid hb4;have HRT:=Lib.hid (hr2.setRow #[.int .i64 1,.int .i64 3,.int .i64 3,.bool false,.int .i64 a]);clear hb2 hb4 hr2;obtain⟨w5,hw5⟩:∃w5,w5=w2.setRow w1.heap.size #[.int .i64 1,.int .i64 3,.int .i64 3,.bool false,.int .i64 a]:=⟨_,rfl⟩;rw[← hw5] at hst hS4 HB4 HRT;clear hw5)))
 all_goals
  have hb5:=HB4.out
  have HR5:=Lib.hid (HR.out.keep hb5)
  have hr1:=HR1.out.keep hb5
  have e0:w5.cell? ⟨w.heap.size,0,none⟩=some (.int .i64 8):=(hb5.cell (p:=⟨w.heap.size,0,none⟩) (World.block_lt_of_cell? w1 _ d0)).trans d0
  have l1:=tld_callR hr1 HAS.out
  have l2:=HRT.out.ld0 (d:=_) Tryz.underlying160 rfl (by kernel_rfl)
  have HB5:=Lib.hid (HB.out.trans (hb5.mono HB.out.size))
  have HC5:=Lib.hid (HC.out w5 (H0.out.trans (HB5.out.mono H0.out.size)))
  have HL5:=Lib.hid (Nat.lt_of_lt_of_le HLT.out hb5.size)
  clear hb5 hr1 hS1 hS2 hS4 hst hbd hbz HKK HRT HB4 HC HG HR HR1 HB HLT d0 d1 q6
  (try clear hS3)
  go_wp2_with (go_at_call 81;refine HC5.out.mono ?_;rintro e6 w6 ⟨X,rfl,hX,hone,hu,ho⟩;have hr:=ans_row H0.out HR5.out (Nat.le_succ _) hu;have hst:=ans_st hr hX hone;have HLD:=Lib.hid (ans_ldV hr hX);have HP:=Lib.hid (HOK.out.put (C:=X) H0.out HB5.out hu ho (Nat.le_succ _) HL5.out);have HX:=Lib.hid (And.intro hX hone);clear hr hX hone hu ho;generalize w6.setRow (w.heap.size+1) X=w7 at *)
  exact bodyPost_ret (v:=.agg X) (by rw[results_cell1 rfl];simp[asAddr,Result.andThen,HLD.out]) rfl ⟨X,rfl,HX.out.1,HX.out.2,HP.out.1,HP.out.2⟩
end
section
variable {w0:World} {k:KC} {s:KSt} {fc:FC} {x:FM} {p:Nat} {A:Array Value}
theorem spec_writeG (h:KF w0 k s fc x) (p1:1≤p) (p16:p≤16) {q0:Nat} {m:Int}(hf:FileG x q0 m)(hm:0≤m∧m≤511) {j k0:Nat}(hj:j<8)(hd:s.fd (p*8+j)=k0+1)(hF:OpenLaw.thing (s.fs k0)=.agg (thG 0))(hA:A.size=7)(hA0:A[0]?=some (.int .i64 8))(hA1:A[1]?=some (.int .i64 j)) {z:List Int} {ad:Option Addr} {cp:Nat}(hA6:A[6]?=some (.slice ad z.length cp))(hz:At (Value.int .u8) 0 w0 (.slice ad z.length cp) z)(hz2:z.length≤100) :
  OutOk w0 (KOutD w0.heap.size k fc s.tag x.bs (fun s' x' e a b l=>e=0∧a=z.length∧s'=SeekTo s k0 z.length∧SameD x x'∧x'.held=x.held∧x'.nh=x.nh∧l=[])) →
  Spec w0 (KOutD w0.heap.size k fc s.tag x.bs (fun s' x' e a b l=>e=0∧a=z.length∧s'=SeekTo s k0 z.length∧SameD x x'∧x'.held=x.held∧x'.nh=x.nh∧l=[])) 18 #[.pointer (some ⟨k.K,0,none⟩),.int .i64 p,.agg A]:=by
 intro ok
 refine doW_is ok (.inr (.inl rfl)) hA hA0 (descWG_is ok h p1 p16 hj hd hF hA hA0 hA1 ?_)
 intro w h0
 have hz0:=h0.size
 have hFi:k.Fi<w0.heap.size:=h.kt.lt (by rw[h.kt.tFi];decide)
 have hlt:=h.fs.lt
 refine(kwriteG_is (h.keep h0) p1 p16 hf hm hj hd hA1 hA6 (hz.keep h0) hz2).mono ?_
 rintro e w' ⟨rfl,x',hk,hfz,hh,hn,hu,hs⟩
 obtain⟨hX,hone⟩:=ansN3' 0 (z.length:Int) 0
 refine⟨_,rfl,hX,hone,hu.mono fun i hi e=>?_,SeekTo s k0 z.length,x',0,z.length,0,.slice none 0 0,[],hk,fun i e=>.inl e,hs,rfl,OB.nil _ _,fun i e=>(by cases e),⟨rfl,rfl,rfl,hfz,hh,hn,rfl⟩,hu.mono fun i _ e=>?_⟩
 ·rcases e with rfl|e|e
  ·exact hFi
  ·exact hlt i e
  ·omega
 ·rcases e with rfl|e|e
  ·left;rw[h.kt.tFi];decide
  ·exact .inr (.inl e)
  ·exact .inr (.inr e)
end
structure WR where
 n:Nat
 v:Value
 l:List Int
def wrC (x:WR):List Value:=[.int .i64 x.n,x.v]
def WsOk (bad:Nat→Prop) (w:World) (l:List WR):Prop:=∀x∈l,At (Value.int .u8) 0 w x.v x.l∧x.l.length=64∧∀j,x.v.ownBlock=some j→¬bad j∧j<w.heap.size
theorem At.updW {α:Type} {f:α→Value} {d:α} {w w':World} {S:Nat→Prop} {v:Value} {l:List α}(h:At f d w v l)(hu:Upd S w w')(hn:∀j,v.ownBlock=some j→¬S j):At f d w' v l:=by
 obtain⟨a,cap,rfl,h1,h2,h3⟩:=h
 refine⟨a,cap,rfl,h1,h2,?_⟩
 rcases h3 with e|⟨b,o,e,hb,hc⟩
 ·exact .inl e
 ·refine .inr ⟨b,o,e,Nat.lt_of_lt_of_le hb hu.size,fun i hi=>?_⟩
  exact(hu.cell hb (hn b (by rw[e];rfl))).trans (hc i hi)
theorem WsOk.upd {bad S:Nat→Prop} {w w':World} {l:List WR}(h:WsOk bad w l)(hu:Upd S w w')(hn:∀x∈l,∀j,x.v.ownBlock=some j→¬S j):WsOk bad w' l:=fun x hx=>⟨(h x hx).1.updW hu (hn x hx),(h x hx).2.1,fun j e=>⟨((h x hx).2.2 j e).1,Nat.lt_of_lt_of_le ((h x hx).2.2 j e).2 hu.size⟩⟩
theorem WsOk.updB {bad:Nat→Prop} {w w':World} {l:List WR}(h:WsOk bad w l)(hu:Upd bad w w'):WsOk bad w' l:=h.upd hu (fun x hx j e=>((h x hx).2.2 j e).1)
theorem WsOk.keep {bad:Nat→Prop} {w w':World} {l:List WR}(h:WsOk bad w l)(hb:Below w.heap.size w w'):WsOk bad w' l:=h.upd (S:=fun _=>False) (Upd.below hb) (fun _ _ _ _ e=>e)
structure DW (w:World) (D sb nb:Nat) (wv:Value) (S:Nat) (s f:List Int) (wc:List WR):Prop where
 dk:Dk w D sb nb wv wc.length S s f
 ow:w.ownsRow 0 107 2 wv wc.length (wc.flatMap wrC)
 ok:WsOk (Dset D sb nb wv) w wc
 sc:∀x∈wc,x.n<S
section
variable {w w' w2:World} {D sb nb m S:Nat} {wv:Value} {s f:List Int} {wc:List WR}
theorem DW.upd {T:Nat→Prop}(h:DW w D sb nb wv S s f wc)(hu:Upd T w w')(h1:¬T D)(h2:¬T sb)(h3:¬T nb)(h4:∀j,wv.ownBlock=some j→¬T j)(h5:∀x∈wc,∀j,x.v.ownBlock=some j→¬T j):DW w' D sb nb wv S s f wc:=by
 have k:∀ {o v},w.cell? ⟨D,o,none⟩=some v→w'.cell? ⟨D,o,none⟩=some v:=fun hc=>(hu.cell h.dk.lt h1).trans hc
 have ho:=hu.owns h.ow (fun g e=>h4 g e)
 exact⟨⟨k h.dk.c0,k h.dk.c1,k h.dk.c2,k h.dk.c3,fun j=>(hu.frozen h.dk.lt h1).trans (h.dk.fz j),Nat.lt_of_lt_of_le h.dk.lt hu.size,h.dk.sB.upd hu h2,h.dk.nB.upd hu h3,h.dk.ls,h.dk.lf,⟨_,ho⟩,h.dk.n1,h.dk.n2,h.dk.n3,h.dk.o0,h.dk.o1,h.dk.o2,h.dk.S0,h.dk.S1⟩,ho,h.ok.upd hu h5,h.sc⟩
theorem DW.keep (h:DW w D sb nb wv S s f wc)(hb:Below w.heap.size w w'):DW w' D sb nb wv S s f wc:=h.upd (T:=fun _=>False) (Upd.below hb) (fun e=>e) (fun e=>e) (fun e=>e) (fun _ _ e=>e) (fun _ _ _ _ e=>e)
theorem DW.nil (h:Dk w D sb nb (.slice none 0 0) 0 S s f):DW w D sb nb (.slice none 0 0) S s f []:=⟨h,World.ownsRow_nil _ _ _ _,fun _ e=>(nomatch e),fun _ e=>(nomatch e)⟩
theorem DW.lt (h:DW w D sb nb wv S s f wc) {j:Nat}(hj:Dset D sb nb wv j):j<w.heap.size:=by
 rcases hj with e|e|e|e
 ·rw[e];exact h.dk.lt
 ·rw[e];exact h.dk.sB.lt
 ·rw[e];exact h.dk.nB.lt
 ·exact(h.ow.lt j e).2
theorem DW.appW (h:DW w2 D sb nb wv S s f wc) {k:Nat}(hk:k<S) {v2:Value} {l:List Int}(hv:v2.oneCell'=true)(ha:At (Value.int .u8) 0 w2 v2 l)(hl:l.length=64)(hb:∀j,v2.ownBlock=some j→¬Dset D sb nb wv j∧j<w2.heap.size)(hm:wc.length≤100000):∃v' w4,(Builtin.append_ #[103,103] 103 #[wv,.slice (some ⟨w2.heap.size,0,none⟩) 1 1]).run Tryz.prog (w2.alloc (.cells #[.int .i64 k,v2] 107))=.ok v' w4∧w4.cell? ⟨D,2,none⟩=some wv∧w4.frozen? ⟨D,2,none⟩=false ∧
  DW (w4.setCell ⟨D,2,none⟩ v') D sb nb v' S s f (wc++[⟨k,v2,l⟩])∧Upd (Dset D sb nb wv) w2 (w4.setCell ⟨D,2,none⟩ v')∧(v'.ownBlock=wv.ownBlock∨∃g,w2.heap.size≤g∧v'.ownBlock=some g)∧∃a c,v'=.slice a (wc.length+1) c:=by
 have hal:=Go.Joins.below_alloc1 w2 (.cells #[.int .i64 k,v2] 107)
 have h3:=h.keep hal
 have ho:=h3.ow
 obtain⟨i0,hi,hz0,hz1,hz2⟩:=info_parts infoW
 obtain⟨v',w4,hap,own,gr,hfr⟩:=run_append_fresh (P:=Tryz.prog) (w2.alloc (.cells #[.int .i64 k,v2] 107)) 0 103 103 107 i0 _ 2 32 Tryz.underlying103 hi hz0 hz1 hz2 rfl (by decide) wv wc.length _ ho ⟨w2.heap.size,0,none⟩ 1 1 [.int .i64 k,v2] rfl (cells_new w2 [.int .i64 k,v2] 107) (by intro u hu;simp at hu;rcases hu with rfl|rfl;rfl;exact hv) (by unfold maxLen;omega) (by omega) (by omega)
 obtain⟨a0,cap,rfl⟩:=own_form own
 have ne:∀ {b},wv.ownBlock≠some b→some b≠wv.ownBlock:=fun h e=>h e.symm
 have u0:Upd (fun k=>k=D) w4 (w4.setCell ⟨D,2,none⟩ (.slice a0 (wc.length+1) cap)):=Upd.set _ _ rfl
 have kD:∀ {o v},w2.cell? ⟨D,o,none⟩=some v→w4.cell? ⟨D,o,none⟩=some v:=fun hc=>(grown_cell gr h3.dk.lt (ne h3.dk.o0)).trans ((hal.cell (p:=⟨D,_,none⟩) h.dk.lt).trans hc)
 have nD:∀ {b},b<w2.heap.size→wv.ownBlock≠some b→(Value.slice a0 (wc.length+1) cap).ownBlock≠some b:=fun {b} hb hn=>by
  rcases hfr with e|⟨g,hg,e⟩
  ·rw[e];exact hn
  ·rw[e];intro e2;injection e2 with e2;have:=hal.size;omega
 have z:∀j,w4.frozen? ⟨D,j,none⟩=false:=fun j=>(grown_frozen gr h3.dk.lt (ne h3.dk.o0)).trans (h3.dk.fz j)
 have hU:Upd (Dset D sb nb wv) w2 (w4.setCell ⟨D,2,none⟩ (.slice a0 (wc.length+1) cap)):=((Upd.below hal).trans (Upd.grown0 gr (fun b hb _=>.inr (.inr (.inr hb))))).trans (Upd.set _ _ (.inl rfl))
 have hown:=u0.owns own (fun g hg e=>nD h.dk.lt h.dk.o0 (by rw[hg,e]))
 have hlen:(wc++[(⟨k,v2,l⟩:WR)]).length=wc.length+1:=by simp
 have hcs:(wc++[(⟨k,v2,l⟩:WR)]).flatMap wrC=wc.flatMap wrC++[.int .i64 k,v2]:=by simp[wrC]
 have hdk:Dk (w4.setCell ⟨D,2,none⟩ (.slice a0 (wc.length+1) cap)) D sb nb (.slice a0 (wc.length+1) cap) (wc.length+1) S s f:=⟨set_off (by decide) (kD h.dk.c0),set_off (by decide) (kD h.dk.c1),set_same (kD h.dk.c2),set_off (by decide) (kD h.dk.c3),fun j=>by rw[World.frozen?_setCell];exact z j,Nat.lt_of_lt_of_le h3.dk.lt (Nat.le_trans gr.size u0.size),(h3.dk.sB.kept gr (ne h3.dk.o1)).upd u0 (fun e=>h.dk.n1 e.symm),(h3.dk.nB.kept gr (ne h3.dk.o2)).upd u0 (fun e=>h.dk.n2 e.symm),h.dk.ls,h.dk.lf,⟨_,hown⟩,h.dk.n1,h.dk.n2,h.dk.n3,nD h.dk.lt h.dk.o0,nD h.dk.sB.lt h.dk.o1,nD h.dk.nB.lt h.dk.o2,h.dk.S0,h.dk.S1⟩
 have hok2:WsOk (Dset D sb nb wv) w2 (wc++[⟨k,v2,l⟩]):=fun x hx=>by
  rcases List.mem_append.1 hx with q|q
  ·exact h.ok x q
  ·rw[List.mem_singleton] at q
   subst q
   exact⟨ha,hl,hb⟩
 refine⟨_,w4,hap,kD h.dk.c2,z 2,⟨by rw[hlen];exact hdk,by rw[hlen,hcs];exact hown,?_,?_⟩,hU,?_,_,_,rfl⟩
 ·intro x hx
  have q:=hok2.updB hU x hx
  have q2:=(hok2 x hx).2.2
  refine⟨q.1,q.2.1,fun j e=>⟨fun hd=>?_,(q.2.2 j e).2⟩⟩
  have h5:=q2 j e
  rcases hd with e1|e1|e1|e1
  ·exact h5.1 (.inl e1)
  ·exact h5.1 (.inr (.inl e1))
  ·exact h5.1 (.inr (.inr (.inl e1)))
  ·exact nD h5.2 (fun e2=>h5.1 (.inr (.inr (.inr e2)))) e1
 ·intro x hx
  rcases List.mem_append.1 hx with q|q
  ·exact h.sc x q
  ·rw[List.mem_singleton] at q
   subst q
   exact hk
 ·rcases hfr with e|⟨g,hg,e⟩
  ·exact .inl e
  ·exact .inr ⟨g,Nat.le_trans hal.size hg,e⟩
theorem DW.putB (h:DW w D sb nb wv S s f wc) {k:Nat}(hk:k<S) {l:List Int}(hl:l.length=64):DW (w.setRow nb ((putS f k l).map u8V).toArray) D sb nb wv S s (putS f k l) wc:=by
 have u:Upd (fun b=>b=nb) w (w.setRow nb ((putS f k l).map u8V).toArray):=Upd.setRow w _ rfl
 exact⟨h.dk.putB hk hl,u.owns h.ow (fun g hg e=>h.dk.o2 (by rw[hg,e])),h.ok.upd u (fun x hx j e q=>((h.ok x hx).2.2 j e).1 (.inr (.inr (.inl q)))),h.sc⟩
def CW2 (D sb nb:Nat) (wv:Value) (S:Nat) (s f:List Int) (wc:List WR) (k:Nat) (l:List Int) (w:World) (e:Ending) (w2:World):Prop:=
 ∃a2 k2 w4 a4 k4,e=.returned (.slice a2 64 k2)∧w2.cell? ⟨D,2,none⟩=some wv∧(w2.alloc (.cells #[.int .i64 k,.slice a2 64 k2] 107)).cell? ⟨D,2,none⟩=some wv∧(Builtin.append_ #[103,103] 103 #[wv,.slice (some ⟨w2.heap.size,0,none⟩) 1 1]).run Tryz.prog (w2.alloc (.cells #[.int .i64 k,.slice a2 64 k2] 107))=.ok (.slice a4 (wc.length+1) k4) w4∧w4.cell? ⟨D,2,none⟩=some wv∧w4.frozen? ⟨D,2,none⟩=false ∧
  Hid (∃v2,DW (w4.setCell ⟨D,2,none⟩ (.slice a4 (wc.length+1) k4)) D sb nb (.slice a4 (wc.length+1) k4) S s f (wc++[⟨k,v2,l⟩])∧∀j,v2.ownBlock=some j→w.heap.size≤j)∧Hid (Upd (Dset D sb nb wv) w (w4.setCell ⟨D,2,none⟩ (.slice a4 (wc.length+1) k4)))∧Hid ((Value.slice a4 (wc.length+1) k4).ownBlock=wv.ownBlock∨∃g,w.heap.size≤g∧(Value.slice a4 (wc.length+1) k4).ownBlock=some g)
theorem clone_w2 (h:DW w D sb nb wv S s f wc) {v:Value} {l:List Int}(hl:l.length=64)(hv:At (Value.int .u8) 0 w v l)(hm:wc.length≤100000) {k:Nat}(hk:k<S):Calls Tryz.prog 105 #[v] w (CW2 D sb nb wv S s f wc k l w):=by
 refine(cloneB_is (by rw[hl];omega) hv).mono ?_
 rintro e2 w2 ⟨v2,rfl,ho2,hb2⟩
 have hat:=at_of_owned (f:=Value.int .u8) (d:=0) ho2
 rw[hl] at ho2
 have hlt:=ho2.lt
 obtain⟨a2,k2,rfl⟩:=own_form ho2
 have hd2:=h.keep hb2
 obtain⟨v4,w4,hap,c4,z4,hd4,hu4,hf4,a4,k4,rfl⟩:=hd2.appW hk rfl hat hl (fun j e=>⟨fun q=>by have:=h.lt q;have:=hlt j e;omega,(hlt j e).2⟩) hm
 refine⟨a2,k2,w4,a4,k4,rfl,hd2.dk.c2,(hd2.dk.keep (Go.Joins.below_alloc1 w2 _)).c2,hap,c4,z4,Lib.hid ⟨_,hd4,fun j e=>(hlt j e).1⟩,Lib.hid ((Upd.below hb2).trans hu4),Lib.hid ?_⟩
 rcases hf4 with e|⟨g,hg,e⟩
 ·exact .inl e
 ·exact .inr ⟨g,Nat.le_trans hb2.size hg,e⟩
def WritePost2 (D sb nb:Nat) (wv:Value) (S:Nat) (s f:List Int) (wc:List WR) (k:Nat) (l:List Int) (w:World) (e:Ending) (w':World):Prop:=
 e=.returned (.int .i64 0)∧∃v' v2,DW w' D sb nb v' S s (putS f k l) (wc++[⟨k,v2,l⟩])∧(∀j,v2.ownBlock=some j→w.heap.size≤j)∧Upd (Dset D sb nb wv) w w'∧(v'.ownBlock=wv.ownBlock∨∃g,w.heap.size≤g∧v'.ownBlock=some g)
attribute [local go_sem ↓] copyB_eq
theorem write2_is (h:DW w D sb nb wv S s f wc) {k:Nat}(hk:k<S) {v:Value} {l:List Int}(hl:l.length=64)(hv:At (Value.int .u8) 0 w v l)(hm:wc.length≤100000)(hnv:∀a n c,v=.slice (some a) n c→¬Dset D sb nb wv a.block):Calls Tryz.prog 41 #[.pointer (some ⟨D,0,none⟩),.int .i64 k,v] w (WritePost2 D sb nb wv S s f wc k l w):=by
 have HGO:=Lib.hid (goes_is h.dk)
 have HSZ:=Lib.hid (size_is h.dk)
 have HCL:=Lib.hid (clone_w2 (h.keep (Below.refl _ _).drew) hl (hv.keep (Below.refl _ _).drew) hm hk)
 have HD:=Lib.hid h
 have HV:=Lib.hid hv
 have HNV:=Lib.hid hnv
 have HM:=Lib.hid hm
 obtain⟨va,cap,rfl,hcl,hcm,hvc⟩:=hv
 rw[hl] at hcl
 have i0:¬(k:Int)<0:=by omega
 have i1:¬(S:Int)≤(k:Int):=by omega
 have c2:=h.dk.c2
 obtain⟨p,hp⟩:∃p,p=WritePost2 D sb nb wv S s f wc k l w:=⟨_,rfl⟩
 rw[← hp]
 have HP:=Lib.hid hp
 have HL:=Lib.hid hl
 clear h hp hnv hm hvc
 rw[hl]
 rw[hl] at HV HNV
 clear hl
 go_enter Tryz.func41,Tryz.ntmps41
 rw[HL.out] at HCL
 go_upto_region 4 with (first|(go_at_call 40;refine HSZ.out.mono ?_;rintro e1 w1 ⟨rfl,rfl⟩)|(go_at_call 104;refine HGO.out.mono ?_;rintro e1 w1 ⟨rfl,rfl⟩))
 go_region_law (first|(refine step_append_run rfl (.tmp 26) (.tmp 31) 103 rfl hap ?_)|(go_simp;go_at_call 105;refine HCL.out.mono ?_;rintro e2 w2 ⟨a2,k2,w4,a4,k4,rfl,c22,c23,hap,c4,z4,HD4,HU4,HF4⟩))
 all_goals
  obtain⟨v2,hd5,hv2⟩:=HD4.out
  have HV2:=Lib.hid hv2
  have HU5:=Lib.hid ((Upd.drew (S:=Dset D sb nb wv) w).trans HU4.out)
  have HF5:=Lib.hid HF4.out
  clear HD4 HU4 HF4 hap c4 z4 c22 c23 hv2
  generalize w4.setCell ⟨D,2,none⟩ (.slice a4 (wc.length+1) k4)=w5 at *
  have c1:=hd5.dk.c1
  have s1:=hd5.dk.S1
  have hv5:∃vb vo,va=some ⟨vb,vo,none⟩∧∀i,i<l.length→w5.cell? ⟨vb,vo+i,none⟩=some (u8V (l.getD i 0)):=by
   obtain⟨a',cap',e',_,_,hm'⟩:=HV.out
   rcases hm' with h0|⟨vb,vo,hab,hlt,hc⟩
   ·have:=HL.out;rw[h0] at this;simp at this
   ·injection e' with e1 _ _
    rw[e1,hab]
    refine⟨vb,vo,rfl,fun i hi=>?_⟩
    exact(HU5.out.cell hlt (HNV.out _ _ _ (by rw[e1,hab]))).trans (hc i hi)
  obtain⟨vb,vo,rfl,hvc⟩:=hv5
  have hmin:64=Nat.min 64 (S*64-k*64):=(Nat.min_eq_left (by omega)).symm
  have hcp:=run_copyB (w:=w5) (g:=nb) (o:=k*64) (dL:=S*64-k*64) (dC:=S*64-k*64) (sL:=64) (sC:=cap) (cs:=l) hd5.dk.nB (by rw[HL.out];exact hmin) hvc (by rw[HL.out,hd5.dk.lf];omega)
  rw[HL.out] at hcp
  change (copyB _).run _ _=.ok _ (w5.setRow nb ((putS f k l).map u8V).toArray) at hcp
  have HD6:=Lib.hid (hd5.putB hk HL.out)
  have HU6:=Lib.hid (HU5.out.trans (Upd.setRow w5 ((putS f k l).map u8V).toArray (S:=Dset D sb nb wv) (.inr (.inr (.inl rfl)))))
  generalize w5.setRow nb ((putS f k l).map u8V).toArray=w6 at *
  obtain⟨n,hn⟩:∃n,n=S*64:=⟨_,rfl⟩
  rw[← hn] at c1 hcp
  have b0:(n:Int)≤16384:=by omega
  have b1:(k:Int)*64+64≤n:=by omega
  have b2:¬n=k*64:=by omega
  clear hd5 hvc hn HU5 hmin
  go_wp2_with fail
  rw[HP.out]
  exact⟨rfl,_,v2,HD6.out,HV2.out,HU6.out,HF5.out⟩
end
def stp (n c:Int):Int:=IntKind.u32.wrap (bits .xor .u32 n (IntKind.u32.wrap c)*16777619)
def sumB (n:Int) (z:List Int):Int:=z.foldl stp n
theorem sumB_next (n:Int) (z:List Int) {j:Nat}(hj:j<z.length):sumB n (z.take (j+1))=stp (sumB n (z.take j)) (z.getD j 0):=by
 unfold sumB
 rw[List.take_add_one,List.getElem?_eq_getElem hj,Option.toList_some,List.foldl_append]
 simp[List.getD,List.getElem?_eq_getElem hj]
theorem sum_is {w:World} {v:Value} {z:List Int}(hv:At (Value.int .u8) 0 w v z) (n0:Int):Calls Tryz.prog 211 #[.int .u32 n0,v] w fun e w'=>e=.returned (.int .u32 (sumB n0 z))∧w=w':=by
 have hat:=hv
 obtain⟨a,cap,rfl,hl,hcm,-⟩:=hv
 obtain⟨n,hn⟩:∃n,n=z.length:=⟨_,rfl⟩
 rw[← hn] at hat hl ⊢
 have HN:=Lib.hid hn
 have HC:=Lib.hid (At.cellB hat)
 have hnm:n≤maxLen:=by omega
 unfold maxLen at hnm
 clear hn hat
 go_enter Tryz.func211,Tryz.ntmps211
 go_wp2_with fail
 go_loopw [0,9] (fun nv iv wr=>∃j:Nat,j≤n∧iv=.int .i64 j∧nv=.int .u32 (sumB n0 (z.take j))∧wr=w) (fun _ iv _=>n-(intOf iv).toNat)
 case atStart=>exact⟨0,by omega,by simp,by simp[sumB],rfl⟩
 case round=>
  obtain⟨j,hj,rfl,rfl,rfl⟩:=hrel
  by_cases hlt:j<n
  ·have hji:(j:Int)<n:=by omega
   rcases HC.out with e|⟨b,off,rfl,hb,hc⟩
   ·rw[e] at HN;have:=HN.out;simp at this;omega
   have hcj:=hc j (by have:=HN.out;omega)
   have HS:=Lib.hid (sumB_next n0 z (j:=j) (by have:=HN.out;omega))
   clear hc
   go_wp2_with fail
   go_roundw
   case rel=>exact⟨j+1,by omega,by go_num,by rw[HS.out];rfl,by trivial⟩
   case measure=>simp[intOf];omega
  ·obtain rfl:j=n:=by omega
   have HT:Hid (z.take j=z):=Lib.hid (List.take_of_length_le (by have:=HN.out;omega))
   go_wp2_with fail
   go_ret
   exact⟨by rw[HT.out];rfl,rfl⟩
structure WL (w:World) (b:Nat) (l:List WR):Prop where
 lt:b<w.heap.size
 c:∀i x,l[i]?=some x→w.cell? ⟨b,i*2,none⟩=some (.int .i64 x.n)∧w.cell? ⟨b,i*2+1,none⟩=some x.v
 ok:∀x∈l,At (Value.int .u8) 0 w x.v x.l∧x.l.length=64∧x.n<256
theorem WL.keep {w w':World} {b:Nat} {l:List WR}(h:WL w b l)(hb:Below w.heap.size w w'):WL w' b l:=⟨Nat.lt_of_lt_of_le h.lt hb.size,fun i x e=>⟨(hb.cell (p:=⟨b,_,none⟩) h.lt).trans (h.c i x e).1,(hb.cell (p:=⟨b,_,none⟩) h.lt).trans (h.c i x e).2⟩,fun x hx=>⟨(h.ok x hx).1.keep hb,(h.ok x hx).2⟩⟩
def stW (n:Int) (x:WR):Int:=sumB (stp n x.n) x.l
def sumW (l:List WR):Int:=l.foldl stW 2166136261
theorem sumW_next (l:List WR) {j:Nat} {x:WR}(hx:l[j]?=some x):sumW (l.take (j+1))=stW (sumW (l.take j)) x:=by
 unfold sumW
 rw[List.take_add_one,hx,Option.toList_some,List.foldl_append]
 rfl
theorem Sum_is {w:World} {b n cap:Nat} {l:List WR}(h:WL w b l)(hn:n=l.length)(hc:n≤cap)(hcm:cap≤maxLen):Calls Tryz.prog 133 #[.slice (some ⟨b,0,none⟩) n cap] w fun e w'=>e=.returned (.int .u32 (sumW l))∧Below w.heap.size w w':=by
 have HN:=Lib.hid hn
 have HC:=Lib.hid h
 have hnm:n≤maxLen:=by omega
 unfold maxLen at hnm
 clear hn h
 go_enter Tryz.func133,Tryz.ntmps133
 go_wp2_with fail
 go_loopw [3,8] (fun nv iv wr=>∃j:Nat,j≤n∧iv=.int .i64 j∧nv=.int .u32 (sumW (l.take j))∧Hid (Below w.heap.size w wr)) (fun _ iv _=>n-(intOf iv).toNat)
 case atStart=>exact⟨0,by omega,by simp,by simp[sumW],Lib.hid (Below.refl _ _)⟩
 case round=>
  obtain⟨j,hj,rfl,rfl,HB⟩:=hrel
  by_cases hlt:j<n
  ·have hji:(j:Int)<n:=by omega
   obtain⟨x,hx⟩:∃x,l[j]?=some x:=⟨_,List.getElem?_eq_getElem (by have:=HN.out;omega)⟩
   have hW:=HC.out.keep HB.out
   obtain⟨k0,k1⟩:=hW.c j x hx
   obtain⟨a0,a1,a2⟩:=hW.ok x (List.mem_of_getElem? hx)
   have HA:=Lib.hid a0
   obtain⟨va,vc,hve,-⟩:=a0
   rw[a1] at hve
   rw[hve] at k1
   have HA2:Hid (At (Value.int .u8) 0 wr (.slice va 64 vc) x.l):=Lib.hid (by rw[← hve];exact HA.out)
   have HS:=Lib.hid (sumW_next l hx)
   have hal:=Go.Joins.below_alloc1 wr (.cells #[.int .i64 x.n,.slice va 64 vc] 228)
   have HB2:=Lib.hid (HB.out.trans (hal.mono HB.out.size))
   have HA3:=Lib.hid (HA2.out.keep hal)
   have HR:=Lib.hid (row_new wr 228 #[.int .i64 x.n,.slice va 64 vc])
   clear hW HA HA2 hve a1 hal
   obtain⟨p,hp⟩:∃p,p=wr.heap.size:=⟨_,rfl⟩
   rw[← hp] at HR
   go_upto_region 5 with fail
   rw[← hp]
   clear hp k0 k1
   generalize wr.alloc (.cells #[.int .i64 x.n,.slice va 64 vc] 228)=w1 at *
   have d0:w1.cell? ⟨p,0,none⟩=some (.int .i64 x.n):=by rw[HR.out.cell];rfl
   have HW2:=(Below.refl w1.heap.size w1).alloc (Nat.le_refl _) (.cells #[.int .u8 (x.n)] 5)
   have d1:(w1.alloc (.cells #[.int .u8 (x.n)] 5)).cell? ⟨p,1,none⟩=some (.slice va 64 vc):=by rw[(HR.out.alloc _).cell];rfl
   have HS1:=Lib.hid (fun n0=>sum_is (w:=w1.alloc (.cells #[.int .u8 (x.n)] 5)) (at_new (f:=Value.int .u8) (d:=0) w1 [(x.n:Int)] 5 (by simp[maxLen])) n0)
   have HS2:=Lib.hid (fun n0=>sum_is (HA3.out.keep HW2) n0)
   have HB3:=Lib.hid (HB2.out.trans (HW2.mono HB2.out.size))
   clear HW2 HA3 HR HB2
   have hs1:∀n0,Calls Tryz.prog 211 #[.int .u32 n0,.slice (some ⟨w1.heap.size,0,none⟩) 1 1] (w1.alloc (.cells #[.int .u8 (x.n)] 5)) fun e w'=>e=.returned (.int .u32 (stp n0 (x.n)))∧(w1.alloc (.cells #[.int .u8 (x.n)] 5))=w':=fun n0=>HS1.out n0
   have HS1':=Lib.hid hs1
   clear HS1 hs1
   go_wp2_with (first|(go_at_call 211;(with_reducible refine(HS1'.out _).mono ?_);rintro e1 w2 ⟨rfl,rfl⟩)|(go_at_call 211;(with_reducible refine(HS2.out _).mono ?_);rintro e1 w2 ⟨rfl,rfl⟩))
   go_roundw
   case rel=>exact⟨j+1,by omega,by go_num,by rw[HS.out];rfl,HB3⟩
   case measure=>simp[intOf];omega
  ·obtain rfl:j=n:=by omega
   have HT:Hid (l.take j=l):=Lib.hid (List.take_of_length_le (by have:=HN.out;omega))
   go_wp2_with fail
   go_ret
   exact⟨by rw[HT.out];rfl,HB.out⟩
end Go.Proofs.YtfkepfncgdlgoaaGreatDoor
