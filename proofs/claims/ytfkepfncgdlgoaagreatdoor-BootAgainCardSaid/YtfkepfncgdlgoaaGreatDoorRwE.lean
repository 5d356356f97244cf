/- The walks of kernel.write and kernel.read at the file "f". The walks of the kernel's descriptor at read and write of a file; the way from do. The walk of the kernel's descriptor at seek. -/
import Derived.Test.YtfkepfncgdlgoaaGreatDoorRwB
import Derived.Test.YtfkepfncgdlgoaaGreatDoorRwA
namespace Go.Proofs.YtfkepfncgdlgoaaGreatDoor
open Go.RowKit Go.Maps
open Go.RowKit
set_option linter.unusedVariables false
set_option linter.unusedSimpArgs false
set_option maxRecDepth 100000
set_option maxHeartbeats 1000000
def SeekTo (s:KSt) (k0:Nat) (a:Int):KSt:={ s with fs:=OpenLaw.updF s.fs k0 { s.fs k0 with pos:=a } }
def thF (a:Int):Array Value:=#[.int .i64 1,.int .i64 2,.int .i64 3,.bool false,.int .i64 a]
theorem bd_aI2 (c:Int) (w:World) (p:Option Addr) (n cp:Nat):(bdR 35 #[(1,.int .i64 c),(3,.slice p n cp)]).run Tryz.prog w=.ok (.agg (ansV 0 c 0 (.slice p n cp))) w:=by kernel_rfl
theorem alloc3r (w:World) (A B:Array Value):Below w.heap.size w (((w.alloc (.cells A 38)).alloc (.cells B 160)).alloc (.cells ansZ 35))∧Row (((w.alloc (.cells A 38)).alloc (.cells B 160)).alloc (.cells ansZ 35)) w.heap.size 38 A∧Row (((w.alloc (.cells A 38)).alloc (.cells B 160)).alloc (.cells ansZ 35)) (w.heap.size+1) 160 B∧Row (((w.alloc (.cells A 38)).alloc (.cells B 160)).alloc (.cells ansZ 35)) (w.heap.size+2) 35 ansZ:=by
 have b1:=Go.Joins.below_alloc1 w (.cells A 38)
 have b2:=Go.Joins.below_alloc1 (w.alloc (.cells A 38)) (.cells B 160)
 have b3:=Go.Joins.below_alloc1 ((w.alloc (.cells A 38)).alloc (.cells B 160)) (.cells ansZ 35)
 have r1:=row_new w 38 A
 have r2:=row_new (w.alloc (.cells A 38)) 160 B
 have r3:=row_new ((w.alloc (.cells A 38)).alloc (.cells B 160)) 35 ansZ
 rw[size_alloc1] at r2
 rw[size_alloc1,size_alloc1] at r3
 exact⟨(b1.trans (b2.mono b1.size)).trans (b3.mono (b1.trans (b2.mono b1.size)).size),(r1.keep b2).keep b3,r2.keep b3,r3⟩
section
variable {w:World} {k:KC} {s:KSt} {fc:FC} {x:FM} {p:Nat} {A:Array Value}
attribute [local go_sem ↓] ld_ans st_ans ld_call bd_ans
theorem kwriteZ_is (h:KF w k s fc x) (p1:1≤p) (p16:p≤16) {q0:Nat} {m:Int}(hf:FileF x q0 m)(hm:0≤m∧m≤511) {j k0:Nat}(hj:j<8)(hd:s.fd (p*8+j)=k0+1)(hA1:A[1]?=some (.int .i64 j)) {z:List Int} {ad:Option Addr} {cp:Nat}(hA6:A[6]?=some (.slice ad z.length cp))(hz:At (Value.int .u8) 0 w (.slice ad z.length cp) z)(hz2:z.length≤256) :
  Calls Tryz.prog 81 #[.pointer (some ⟨k.K,0,none⟩),.int .i64 p,.agg A,.agg (thF 0)] w fun e w'=>e=.returned (.agg (ansV 0 z.length 0 (.slice none 0 0)))∧∃x',KF w' k (SeekTo s k0 z.length) fc x'∧FileW x' q0 m z∧x'.held=x.held∧x'.nh=x.nh∧Upd (fun i=>i=k.Fi∨x.bs i∨w.heap.size≤i) w w'∧∀i,x'.bs i→x.bs i∨w.heap.size≤i:=by
 obtain⟨hb,r1,r2,r3⟩:=alloc3r w A (thF 0)
 have h1:=h.keep hb
 have a6:=(r1.cell 6).trans hA6
 have t0:=(r2.cell 0).trans (show (thF 0)[0]?=some (.int .i64 1) from rfl)
 have t1:=(r2.cell 1).trans (show (thF 0)[1]?=some (.int .i64 2) from rfl)
 have t2:=(r2.cell 2).trans (show (thF 0)[2]?=some (.int .i64 3) from rfl)
 have t3:=(r2.cell 3).trans (show (thF 0)[3]?=some (.bool false) from rfl)
 have t4:=(r2.cell 4).trans (show (thF 0)[4]?=some (.int .i64 0) from rfl)
 have HH:=Lib.hid h
 have H1:=Lib.hid h1
 have HB:=Lib.hid hb
 have HR1:=Lib.hid r1
 have HR2:=Lib.hid r2
 have HR3:=Lib.hid r3
 have HX:=Lib.hid (And.intro hA1 (And.intro hA6 (And.intro hj (And.intro hd (And.intro p1 p16)))))
 have HWZ:=Lib.hid (fun wx (hbx:Below w.heap.size w wx)=>writeZ_is (h.keep hbx).fs hf hm (hz.keep hbx) hz2)
 have hcm:(cp:Int)≤9223372036854775807:=by
  obtain⟨a',c',e,-,h2,-⟩:=hz
  injection e with _ _ e
  subst e
  unfold maxLen at h2
  omega
 have i2:¬(256:Int)<z.length:=by omega
 have HZL:=Lib.hid hz2
 have hFi:k.Fi<w.heap.size:=h.kt.lt (by rw[h.kt.tFi];decide)
 clear h h1 hf hm hj hd hA1 hA6 hz hz2 hb r1 r2 r3 p1 p16
 have hz0:ansZ=#[.int .i64 0,.int .i64 0,.int .i64 0,.slice none 0 0,.slice none 0 0,.int .i64 0,.int .i64 0,.int .i64 0,.int .i64 0,.int .i64 0,.int .i64 0]:=rfl
 have hz1:thF 0=#[.int .i64 1,.int .i64 2,.int .i64 3,.bool false,.int .i64 0]:=rfl
 obtain⟨L,hL⟩:∃L,L=z.length:=⟨_,rfl⟩
 rw[← hL] at a6 HX HWZ i2 HZL ⊢
 have HL:=Lib.hid hL
 clear hL
 rw[hz0,hz1] at a6 t0 t1 t2 t3 t4
 rw[hz0,hz1] at HB H1 HR1 HR2
 rw[hz1] at HR3 ⊢
 go_enter Tryz.func81,Tryz.ntmps81
 go_upto_region 1 with fail
 have HR3:Hid (Row (((w.alloc (.cells A 38)).alloc (.cells #[.int .i64 1,.int .i64 2,.int .i64 3,.bool false,.int .i64 0] 160)).alloc (.cells #[.int .i64 0,.int .i64 0,.int .i64 0,.slice none 0 0,.slice none 0 0,.int .i64 0,.int .i64 0,.int .i64 0,.int .i64 0,.int .i64 0,.int .i64 0] 35)) (w.heap.size+2) 35 ansZ):=HR3
 generalize (((w.alloc (.cells A 38)).alloc (.cells #[.int .i64 1,.int .i64 2,.int .i64 3,.bool false,.int .i64 0] 160)).alloc (.cells #[.int .i64 0,.int .i64 0,.int .i64 0,.slice none 0 0,.slice none 0 0,.int .i64 0,.int .i64 0,.int .i64 0,.int .i64 0,.int .i64 0,.int .i64 0] 35))=w1 at *
 go_upto_region 16 with fail
 clear t0 t2 t3 t4
 have hzz:∀i,x.bs i→i<w.heap.size:=HH.out.fs.lt
 have hne:∀i,w.heap.size≤i→¬x.bs i:=fun i hi e=>by have:=hzz i e;omega
 have hKb:¬x.bs k.K:=fun e=>by have:=HH.out.sep _ e;rw[HH.out.kt.tK] at this;cases this
 have c2:=H1.out.fsp
 have HS:Hid (∀wx,Below w1.heap.size w1 wx→(wx.cell? ⟨k.K,2,none⟩=some (.pointer (some ⟨fc.F,0,none⟩))∧wx.cell? ⟨w.heap.size+1,1,none⟩=some (.int .i64 2)∧wx.cell? ⟨w.heap.size,6,none⟩=some (.slice ad L cp))):=Lib.hid (fun wx hb=>by
    have lt:∀ {b o v},w1.cell? ⟨b,o,none⟩=some v→b<w1.heap.size:=fun e=>World.block_lt_of_cell? w1 _ e
    exact⟨(hb.cell (p:=⟨k.K,2,none⟩) (lt c2)).trans c2,(hb.cell (p:=⟨w.heap.size+1,1,none⟩) (lt t1)).trans t1,(hb.cell (p:=⟨w.heap.size,6,none⟩) (lt a6)).trans a6⟩)
 have HS2:Hid (∀wx w',Below w1.heap.size w1 wx→Upd x.bs wx w'→(w'.cell? ⟨k.K,2,none⟩=some (.pointer (some ⟨fc.F,0,none⟩))∧w'.cell? ⟨w.heap.size+1,1,none⟩=some (.int .i64 2)∧w'.cell? ⟨w.heap.size,6,none⟩=some (.slice ad L cp))):=Lib.hid (fun wx w' hb hu=>by
    obtain⟨q1,q2,q3⟩:=HS.out wx hb
    have lt:∀ {b o v},wx.cell? ⟨b,o,none⟩=some v→b<wx.heap.size:=fun e=>World.block_lt_of_cell? wx _ e
    exact⟨(hu.cell (lt q1) hKb).trans q1,(hu.cell (lt q2) (hne _ (Nat.le_succ _))).trans q2,(hu.cell (lt q3) (hne _ (Nat.le_refl _))).trans q3⟩)
 clear c2 a6 t1
 go_region_held3 (fun wx=>wx.cell? ⟨k.K,2,none⟩=some (.pointer (some ⟨fc.F,0,none⟩))∧wx.cell? ⟨w.heap.size+1,1,none⟩=some (.int .i64 2)∧wx.cell? ⟨w.heap.size,6,none⟩=some (.slice ad L cp)) (first|(with_reducible exact HS.out _ (Below.refl _ _))|(with_reducible exact HS.out _ (Below.refl _ _).drew)|(with_reducible exact HS2.out _ _ (Below.refl _ _).drew HU2.out)|fail) (first|(go_at_call 60;(with_reducible refine(HWZ.out _ HB.out.drew).mono ?_);rintro e2 v2 ⟨rfl,x2,hf2,hz2,hh2,hn2,hs2,hu2⟩;have HU2:=Lib.hid hu2;have HF2:=Lib.hid (And.intro hf2 (And.intro hz2 (And.intro hh2 (And.intro hn2 hs2))));clear hf2 hz2 hh2 hn2 hs2 hu2)|fail)
 have HS2b:Hid (∀i,x2.bs i→x.bs i∨w1.heap.size≤i):=Lib.hid HF2.out.2.2.2.2
 have hud:Upd x.bs w1 v2:=(Upd.drew w1).trans HU2.out
 have HK2:Hid (KF v2 k s fc x2):=Lib.hid ⟨H1.out.kt.upd hud (fun j hj e=>hj (H1.out.sep j e)),H1.out.c2,HF2.out.1,fun j e=>(HS2b.out j e).elim (H1.out.sep j) (H1.out.kt.tz j)⟩
 have hlt1:w.heap.size+2<w1.heap.size:=HR3.out.lt
 have HC2:=Lib.hid (HR1.out.upd hud (hne _ (Nat.le_refl _)))
 have HR2:=Lib.hid (HR3.out.upd hud (hne _ (by omega)))
 have HUD:=Lib.hid hud
 have HLT:=Lib.hid hlt1
 clear hud hlt1 HS HS2 HWZ HU2
 have HT:Hid (∀wx,Below v2.heap.size v2 wx→(wx.cell? ⟨k.K,6,none⟩=some (.pointer (some ⟨k.Fi,0,none⟩))∧wx.cell? ⟨w.heap.size,1,none⟩=some (.int .i64 j))):=Lib.hid (fun wx hb=>⟨by rw[(HK2.out.keep hb).kt.kr.cell (by decide),HK2.out.kt.c6],((HC2.out.keep hb).cell 1).trans HX.out.1⟩)
 have hKF:k.K≠k.Fi:=fun e=>by
  have t1:=HH.out.kt.tK
  rw[e,HH.out.kt.tFi] at t1
  cases t1
 have HT4:Hid (∀wx w',Below v2.heap.size v2 wx→Upd (fun i=>i=k.Fi) wx w'→(w'.cell? ⟨k.K,6,none⟩=some (.pointer (some ⟨k.Fi,0,none⟩))∧w'.cell? ⟨w.heap.size,1,none⟩=some (.int .i64 j))):=Lib.hid (fun wx w' hb hu=>by
    obtain⟨t1,t2⟩:=HT.out wx hb
    have lt:∀ {b o v},wx.cell? ⟨b,o,none⟩=some v→b<wx.heap.size:=fun e=>World.block_lt_of_cell? wx _ e
    exact⟨(hu.cell (lt t1) hKF).trans t1,(hu.cell (lt t2) (by omega)).trans t2⟩)
 have HSK:Hid (∀wx,Below v2.heap.size v2 wx→Calls Tryz.prog 82 #[.pointer (some ⟨k.Fi,0,none⟩),.int .i64 p,.int .i64 j,.int .i64 L] wx fun e w'=>e=.returned (.int .i64 0)∧OpenLaw.OTab w' k.Fi (OpenLaw.updF s.fs k0 { s.fs k0 with pos:=L }) s.fd∧Upd (fun i=>i=k.Fi) wx w'):=Lib.hid (fun wx hb=>by
    refine(OpenLaw.seek_is (HK2.out.keep hb).kt.fi HX.out.2.2.2.2.1 HX.out.2.2.2.2.2 HX.out.2.2.1 HX.out.2.2.2.1 (at':=(L:Int)) (by omega) (by have:=HZL.out;omega)).mono ?_
    rintro e w' ⟨rfl,hkb,ho⟩
    exact⟨rfl,ho,kb_upd hkb rfl⟩)
 have y0:IntKind.i64.wrap (0+(L:Int))=L:=by rw[IntWalk.i64_in _ (by have:=HZL.out;omega)];omega
 have y1:IntKind.i64.wrap (L:Int)=L:=IntWalk.i64_in _ (by have:=HZL.out;omega)
 go_upto_region 19 with fail
 go_region_held3 (fun wx=>wx.cell? ⟨k.K,6,none⟩=some (.pointer (some ⟨k.Fi,0,none⟩))∧wx.cell? ⟨w.heap.size,1,none⟩=some (.int .i64 j)) (first|(with_reducible exact HT.out _ (Below.refl _ _))|(with_reducible exact HT.out _ (Below.refl _ _).drew)|(with_reducible exact HT4.out _ _ (Below.refl _ _).drew HU4.out)|fail) (first|(go_at_call 82;(with_reducible refine(HSK.out _ (Below.refl _ _).drew).mono ?_);rintro e4 v4 ⟨rfl,ho4,hu4⟩;have HU4:=Lib.hid hu4;have HO4:=Lib.hid ho4;clear ho4 hu4)|fail)
 have HK4:Hid (KF v4 k (SeekTo s k0 L) fc x2):=Lib.hid ((HK2.out.keep (Below.refl _ _).drew).files HO4.out HU4.out)
 have hr4:=HR2.out.drew.upd HU4.out (by omega)
 obtain⟨hX,hone⟩:=ansN3' 0 (L:Int) 0
 have hst:=ans_st hr4 hX hone
 have HLD:=Lib.hid (ans_ldV hr4 hX)
 have hbd:=bd_aI (L:Int)
 have hu5:Upd (fun i=>i=w.heap.size+2) v4 (v4.setRow (w.heap.size+2) (ansV 0 L 0 (.slice none 0 0))):=Upd.setRow v4 _ rfl
 have HFIN:Hid (KF (v4.setRow (w.heap.size+2) (ansV 0 L 0 (.slice none 0 0))) k (SeekTo s k0 L) fc x2∧FileW x2 q0 m z∧x2.held=x.held∧x2.nh=x.nh∧Upd (fun i=>i=k.Fi∨x.bs i∨w.heap.size≤i) w (v4.setRow (w.heap.size+2) (ansV 0 L 0 (.slice none 0 0)))∧∀i,x2.bs i→x.bs i∨w.heap.size≤i):=Lib.hid (by
    have hlt1:=HLT.out
    have hz:∀i,s.tag i≠0→i<w.heap.size:=fun i e=>HH.out.kt.lt e
    refine⟨HK4.out.upd hu5 (fun i hi e=>?_) (fun i hi e=>?_),HF2.out.2.1,HF2.out.2.2.1,HF2.out.2.2.2.1,?_,fun i e=>(HS2b.out i e).imp_right fun q=>by omega⟩
    · have:=hz i hi;omega
    · rcases HS2b.out i hi with q|q
      · have:=hzz i q;omega
      · omega
    · exact(((Upd.below HB.out).trans (HUD.out.mono fun i _ e=>.inr (.inl e))).trans (Upd.drew v2)).trans ((HU4.out.mono fun i _ e=>.inl e).trans (hu5.mono fun i _ e=>.inr (.inr (by omega)))))
 clear hr4 hX hone hu5 HK4 HU4 HO4 HT HT4 HSK hFi hKF hzz hne hKb
 generalize hZ:ansV 0 (L:Int) 0 (.slice none 0 0)=Z at hst HLD hbd HFIN ⊢
 have HZ:=Lib.hid hZ
 clear hZ
 go_wp2_with fail
 exact bodyPost_ret (v:=.agg Z) (by rw[results_cell1 rfl];simp[asAddr,Result.andThen,HLD.out]) rfl ⟨by rw[HZ.out],x2,HFIN.out⟩
theorem ansD3 (e a b:Int) (p:Option Addr) (n c:Nat):(ansV e a b (.slice p n c)).size=11∧(ansV e a b (.slice p n c)).all (·.oneCell')=true:=⟨rfl,ansV_one _ _ _ rfl⟩
theorem FileR.read {x:FM} {q0:Nat} {z:List Int}(h:FSt w fc x)(hf:FileR x q0 z)(hz2:z.length≤256) {a n:Nat}(ha:a≤1000)(hn:n≤512) :
  Calls Tryz.prog 156 #[.pointer (some ⟨fc.F,0,none⟩),.int .i64 2,.int .i64 a,.int .i64 n] w fun e w'=>∃v,e=.returned (.tuple #[v,.int .i64 0])∧OB w.heap.size w' v ((z.drop a).take n)∧Below w.heap.size w w':=by
 obtain⟨m',l',pv,e1⟩:=hf.n1
 have e2:(x.nd 1).ps=pts (q0+1) (blkz z) (blkz z):=by rw[e1]
 have hb:blkz z≤4:=by unfold blkz;omega
 have hq:=hf.q1
 have hr:=readF_is h (i:=1) (by decide) (ni:=2) rfl (by rw[e1]) (by
    rw[e2]
    intro p hp
    simp only[pts,List.mem_map,List.mem_range] at hp
    obtain⟨j,hj,rfl⟩:=hp
    rw[if_pos hj]
    omega) (by rw[e2,pts_len];omega) (L:=z.length) (by rw[e1]) (by rw[e2,pts_len];unfold blkz;omega) ha hn
 rw[e2,catW_take hf.dat] at hr
 exact hr
theorem kreadZ_is (h:KF w k s fc x) (p1:1≤p) (p16:p≤16) {q0:Nat} {z:List Int}(hf:FileR x q0 z)(hz2:z.length≤256) {j k0:Nat}(hj:j<8)(hd:s.fd (p*8+j)=k0+1)(hA1:A[1]?=some (.int .i64 j)) {a n:Nat}(hA3:A[3]?=some (.int .i64 n))(ha:a≤256)(hn:n≤256) :
  Calls Tryz.prog 80 #[.pointer (some ⟨k.K,0,none⟩),.int .i64 p,.agg A,.agg (thF a)] w fun e w'=>∃d,e=.returned (.agg (ansV 0 ((z.drop a).take n).length 0 d))∧OB w.heap.size w' d ((z.drop a).take n)∧KF w' k (SeekTo s k0 ((a+((z.drop a).take n).length:Nat):Int)) fc x∧Upd (fun i=>i=k.Fi∨w.heap.size≤i) w w':=by
 obtain⟨hb,r1,r2,r3⟩:=alloc3r w A (thF a)
 have h1:=h.keep hb
 have a3:=(r1.cell 3).trans hA3
 have t0:=(r2.cell 0).trans (show (thF a)[0]?=some (.int .i64 1) from rfl)
 have t2:=(r2.cell 2).trans (show (thF a)[2]?=some (.int .i64 3) from rfl)
 have t1:=(r2.cell 1).trans (show (thF a)[1]?=some (.int .i64 2) from rfl)
 have t4:=(r2.cell 4).trans (show (thF a)[4]?=some (.int .i64 a) from rfl)
 have HH:=Lib.hid h
 have HB:=Lib.hid hb
 have HR1:=Lib.hid r1
 have HR2:=Lib.hid r2
 have HR3:=Lib.hid r3
 have HX:=Lib.hid (And.intro hA1 (And.intro hA3 (And.intro hj (And.intro hd (And.intro p1 p16)))))
 have HRD:=Lib.hid (fun wx (hbx:Below w.heap.size w wx)=>FileR.read (h.keep hbx).fs hf hz2 (a:=a) (n:=n) (by omega) (by omega))
 have HLE:Hid (((z.drop a).take n).length≤256):=Lib.hid (by rw[List.length_take];omega)
 have HAN:=Lib.hid (And.intro ha hn)
 have i0:¬(n:Int)<0:=by omega
 have i2:¬(256:Int)<n:=by omega
 have hFi:k.Fi<w.heap.size:=h.kt.lt (by rw[h.kt.tFi];decide)
 clear h h1 hf hz2 hj hd hA1 hA3 ha hn hb r1 r2 r3 p1 p16
 generalize (z.drop a).take n=l at *
 obtain⟨L,hL⟩:∃L,L=l.length:=⟨_,rfl⟩
 have HL:=Lib.hid hL
 rw[← hL] at HLE ⊢
 clear hL
 obtain⟨aL,haL⟩:∃aL,aL=a+L:=⟨_,rfl⟩
 have y0:IntKind.i64.wrap ((a:Int)+(L:Int))=(aL:Int):=by rw[IntWalk.i64_in _ (by have:=HLE.out;have:=HAN.out.1;omega)];omega
 rw[← haL]
 have HAL:=Lib.hid haL
 clear haL
 have hz0:ansZ=#[.int .i64 0,.int .i64 0,.int .i64 0,.slice none 0 0,.slice none 0 0,.int .i64 0,.int .i64 0,.int .i64 0,.int .i64 0,.int .i64 0,.int .i64 0]:=rfl
 have hz1:thF a=#[.int .i64 1,.int .i64 2,.int .i64 3,.bool false,.int .i64 a]:=rfl
 rw[hz0,hz1] at a3 t0 t1 t2 t4
 rw[hz0,hz1] at HB HR1 HR2
 rw[hz1] at HR3 ⊢
 go_enter Tryz.func80,Tryz.ntmps80
 go_upto_region 1 with fail
 have HR3:Hid (Row (((w.alloc (.cells A 38)).alloc (.cells #[.int .i64 1,.int .i64 2,.int .i64 3,.bool false,.int .i64 a] 160)).alloc (.cells #[.int .i64 0,.int .i64 0,.int .i64 0,.slice none 0 0,.slice none 0 0,.int .i64 0,.int .i64 0,.int .i64 0,.int .i64 0,.int .i64 0,.int .i64 0] 35)) (w.heap.size+2) 35 ansZ):=HR3
 generalize (((w.alloc (.cells A 38)).alloc (.cells #[.int .i64 1,.int .i64 2,.int .i64 3,.bool false,.int .i64 a] 160)).alloc (.cells #[.int .i64 0,.int .i64 0,.int .i64 0,.slice none 0 0,.slice none 0 0,.int .i64 0,.int .i64 0,.int .i64 0,.int .i64 0,.int .i64 0,.int .i64 0] 35))=w1 at *
 go_upto_region 8 with fail
 clear t0 t2
 have HL1:Hid (∀wx,Below w1.heap.size w1 wx→(wx.cell? ⟨k.K,2,none⟩=some (.pointer (some ⟨fc.F,0,none⟩))∧wx.cell? ⟨w.heap.size+1,1,none⟩=some (.int .i64 2)∧wx.cell? ⟨w.heap.size+1,4,none⟩=some (.int .i64 a)∧wx.cell? ⟨w.heap.size,3,none⟩=some (.int .i64 n))):=Lib.hid (fun wx hb=>⟨((HH.out.keep HB.out).keep hb).fsp,((HR2.out.keep hb).cell 1).trans rfl,((HR2.out.keep hb).cell 4).trans rfl,((HR1.out.keep hb).cell 3).trans HX.out.2.1⟩)
 clear a3 t1 t4
 go_region_held3 (fun wx=>wx.cell? ⟨k.K,2,none⟩=some (.pointer (some ⟨fc.F,0,none⟩))∧wx.cell? ⟨w.heap.size+1,1,none⟩=some (.int .i64 2)∧wx.cell? ⟨w.heap.size+1,4,none⟩=some (.int .i64 a)∧wx.cell? ⟨w.heap.size,3,none⟩=some (.int .i64 n)) (first|(with_reducible exact HL1.out _ (Below.refl _ _))|(with_reducible exact HL1.out _ (Below.refl _ _).drew)|(with_reducible exact HL1.out _ HB2.out)|fail) (first|(go_at_call 156;(with_reducible refine(HRD.out _ HB.out.drew).mono ?_);rintro e2 v2 ⟨d2,rfl,ho2,hb2⟩;have HB2:=Lib.hid ((Below.refl w1.heap.size w1).drew.trans hb2);have HO2:=Lib.hid ho2;clear ho2 hb2)|fail)
 have HO2:Hid (OB w1.heap.size v2 d2 l):=HO2
 obtain⟨pd,cd,rfl⟩:=HO2.out.form
 have hcd:(cd:Int)≤9223372036854775807:=by have:=owns_cap HO2.out;unfold maxLen at this;omega
 rw[← HL.out] at HO2 ⊢
 have HK2:=Lib.hid ((HH.out.keep HB.out).keep HB2.out)
 have HC2:=Lib.hid (HR1.out.keep HB2.out)
 have HT2:=Lib.hid (HR2.out.keep HB2.out)
 have HA2:=Lib.hid (HR3.out.keep HB2.out)
 have HB2b:=Lib.hid (HB.out.trans (HB2.out.mono HB.out.size))
 have HLT:Hid (w.heap.size+2<w1.heap.size∧w1.heap.size≤v2.heap.size):=Lib.hid ⟨HR3.out.lt,HB2.out.size⟩
 clear HL1 HRD
 have HT:Hid (∀wx,Below v2.heap.size v2 wx→(wx.cell? ⟨k.K,6,none⟩=some (.pointer (some ⟨k.Fi,0,none⟩))∧wx.cell? ⟨w.heap.size,1,none⟩=some (.int .i64 j)∧wx.cell? ⟨w.heap.size+1,4,none⟩=some (.int .i64 a))):=Lib.hid (fun wx hb=>⟨by rw[(HK2.out.keep hb).kt.kr.cell (by decide),HK2.out.kt.c6],((HC2.out.keep hb).cell 1).trans HX.out.1,((HT2.out.keep hb).cell 4).trans rfl⟩)
 have hKF:k.K≠k.Fi:=fun e=>by
  have t1:=HH.out.kt.tK
  rw[e,HH.out.kt.tFi] at t1
  cases t1
 have HT4:Hid (∀wx w',Below v2.heap.size v2 wx→Upd (fun i=>i=k.Fi) wx w'→(w'.cell? ⟨k.K,6,none⟩=some (.pointer (some ⟨k.Fi,0,none⟩))∧w'.cell? ⟨w.heap.size,1,none⟩=some (.int .i64 j)∧w'.cell? ⟨w.heap.size+1,4,none⟩=some (.int .i64 a))):=Lib.hid (fun wx w' hb hu=>by
    obtain⟨t1,t2,t3⟩:=HT.out wx hb
    have lt:∀ {b o v},wx.cell? ⟨b,o,none⟩=some v→b<wx.heap.size:=fun e=>World.block_lt_of_cell? wx _ e
    exact⟨(hu.cell (lt t1) hKF).trans t1,(hu.cell (lt t2) (by omega)).trans t2,(hu.cell (lt t3) (by omega)).trans t3⟩)
 have HSK:Hid (∀wx,Below v2.heap.size v2 wx→Calls Tryz.prog 82 #[.pointer (some ⟨k.Fi,0,none⟩),.int .i64 p,.int .i64 j,.int .i64 aL] wx fun e w'=>e=.returned (.int .i64 0)∧OpenLaw.OTab w' k.Fi (OpenLaw.updF s.fs k0 { s.fs k0 with pos:=aL }) s.fd∧Upd (fun i=>i=k.Fi) wx w'):=Lib.hid (fun wx hb=>by
    refine(OpenLaw.seek_is (HK2.out.keep hb).kt.fi HX.out.2.2.2.2.1 HX.out.2.2.2.2.2 HX.out.2.2.1 HX.out.2.2.2.1 (at':=(aL:Int)) (by omega) (by have:=HLE.out;have:=HAN.out.1;have:=HAL.out;omega)).mono ?_
    rintro e w' ⟨rfl,hkb,ho⟩
    exact⟨rfl,ho,kb_upd hkb rfl⟩)
 go_upto_region 11 with fail
 go_region_held3 (fun wx=>wx.cell? ⟨k.K,6,none⟩=some (.pointer (some ⟨k.Fi,0,none⟩))∧wx.cell? ⟨w.heap.size,1,none⟩=some (.int .i64 j)∧wx.cell? ⟨w.heap.size+1,4,none⟩=some (.int .i64 a)) (first|(with_reducible exact HT.out _ (Below.refl _ _))|(with_reducible exact HT.out _ (Below.refl _ _).drew)|(with_reducible exact HT4.out _ _ (Below.refl _ _).drew HU4.out)|fail) (first|(go_at_call 82;(with_reducible refine(HSK.out _ (Below.refl _ _).drew).mono ?_);rintro e4 v4 ⟨rfl,ho4,hu4⟩;have HU4:=Lib.hid hu4;have HO4:=Lib.hid ho4;clear ho4 hu4)|fail)
 have HK4:Hid (KF v4 k (SeekTo s k0 aL) fc x):=Lib.hid ((HK2.out.keep (Below.refl _ _).drew).files HO4.out HU4.out)
 have hr4:=HA2.out.drew.upd HU4.out (by omega)
 obtain⟨hX,hone⟩:=ansD3 0 (L:Int) 0 pd L cd
 have hst:=ans_st hr4 hX hone
 have HLD:=Lib.hid (ans_ldV hr4 hX)
 have hbd:=fun w=>bd_aI2 (L:Int) w pd L cd
 have hu5:Upd (fun i=>i=w.heap.size+2) v4 (v4.setRow (w.heap.size+2) (ansV 0 L 0 (.slice pd L cd))):=Upd.setRow v4 _ rfl
 have HFIN:Hid (OB w.heap.size (v4.setRow (w.heap.size+2) (ansV 0 L 0 (.slice pd L cd))) (.slice pd L cd) l∧KF (v4.setRow (w.heap.size+2) (ansV 0 L 0 (.slice pd L cd))) k (SeekTo s k0 aL) fc x∧Upd (fun i=>i=k.Fi∨w.heap.size≤i) w (v4.setRow (w.heap.size+2) (ansV 0 L 0 (.slice pd L cd)))):=Lib.hid (by
    have hlt1:=HLT.out
    have hz:∀i,s.tag i≠0→i<w.heap.size:=fun i e=>HH.out.kt.lt e
    have hzz:∀i,x.bs i→i<w.heap.size:=HH.out.fs.lt
    refine⟨?_,HK4.out.upd hu5 (fun i hi e=>by have:=hz i hi;omega) (fun i hi e=>by have:=hzz i hi;omega),?_⟩
    · have h1:=((HO2.out.drew.upd HU4.out (fun g hg e=>by have:=(HO2.out.lt g hg).1;omega)).upd hu5 (fun g hg e=>by have:=(HO2.out.lt g hg).1;omega))
      exact h1.base (by omega)
    · exact((Upd.below HB2b.out).trans (Upd.drew v2)).trans ((HU4.out.mono fun i _ e=>.inl e).trans (hu5.mono fun i _ e=>.inr (by omega))))
 clear hr4 hX hone hu5 HK4 HU4 HO4 HT HT4 HSK hFi hKF
 generalize hZ:ansV 0 (L:Int) 0 (.slice pd L cd)=Z at hst HLD hbd HFIN
 have HZ:=Lib.hid hZ
 clear hZ
 go_wp2_with fail
 exact bodyPost_ret (v:=.agg Z) (by rw[results_cell1 rfl];simp[asAddr,Result.andThen,HLD.out]) rfl ⟨.slice pd L cd,by rw[HZ.out],HFIN.out⟩
end
theorem ld_thg (v:Value):Instr.loadAt 160 v=ldR 160 v:=rfl
theorem st_thg (p v:Value):Instr.storeAt 160 p v=stR 160 p v:=rfl
theorem alloc2f (w:World) (o1 o2:Obj):Below w.heap.size w ((w.alloc o1).alloc o2)∧((w.alloc o1).alloc o2).heap[w.heap.size]?=some o1∧((w.alloc o1).alloc o2).heap[w.heap.size+1]?=some o2:=by
 have s1:=size_alloc1 w o1
 refine⟨((Below.refl _ _).alloc (Nat.le_refl _) _).alloc (by omega) _,?_,?_⟩
 ·rw[heap_alloc_old _ _ (by omega)];exact heap_alloc_new _ _
 ·rw[← s1];exact heap_alloc_new _ _
section
variable {w0 w:World} {Out:World→Array Value→World→Prop} {k:KC} {s:KSt} {fc:FC} {x:FM} {p b0 b1 b2:Nat} {A:Array Value}
attribute [local go_sem ↓] bd_ans ld_ans st_ans ld_call ld_thg st_thg
theorem descW_is (ok:OutOk w0 Out)(h:KF w0 k s fc x) (p1:1≤p) (p16:p≤16) {j k0:Nat}(hj:j<8)(hd:s.fd (p*8+j)=k0+1) {a:Int}(hF:OpenLaw.thing (s.fs k0)=.agg (thF a))(hA:A.size=7)(ha:A[0]?=some (.int .i64 8))(ha1:A[1]?=some (.int .i64 j))(hs:Spec w0 Out 81 #[.pointer (some ⟨k.K,0,none⟩),.int .i64 p,.agg A,.agg (thF a)]) :
  Spec w0 Out 37 #[.pointer (some ⟨k.K,0,none⟩),.int .i64 p,.agg A]:=by
 intro w h0
 obtain⟨hb,r1,r2⟩:=alloc2f w (.cells A 38) (.cells ansZ 35)
 have d0:=cell_of_row _ w.heap.size 0 _ _ (0,0) r1
 rw[ha] at d0
 have d1:=cell_of_row _ w.heap.size 1 _ _ (0,0) r1
 rw[ha1] at d1
 have h01:=h0.trans (hb.mono h0.size)
 have q6:((w.alloc (.cells A 38)).alloc (.cells ansZ 35)).cell? ⟨k.K,6,none⟩=some (.pointer (some ⟨k.Fi,0,none⟩)):=by rw[(h.keep h01).kt.kr.cell (by decide),h.kt.c6]
 have hz1:thF a=#[.int .i64 1,.int .i64 2,.int .i64 3,.bool false,.int .i64 a]:=rfl
 rw[hz1] at hF hs
 have HG:Hid (∀wx,Below ((w.alloc (.cells A 38)).alloc (.cells ansZ 35)).heap.size ((w.alloc (.cells A 38)).alloc (.cells ansZ 35)) wx→Calls Tryz.prog 79 #[.pointer (some ⟨k.Fi,0,none⟩),.int .i64 p,.int .i64 j] wx fun e w'=>e=.returned (.tuple #[.agg #[.int .i64 1,.int .i64 2,.int .i64 3,.bool false,.int .i64 a],.int .i64 0])∧Below wx.heap.size wx w'):=Lib.hid fun wx hx=>hF ▸ OpenLaw.get_is ((h.keep h01).keep hx).kt.fi p1 p16 hj hd
 have HR1:Hid (Row ((w.alloc (.cells A 38)).alloc (.cells ansZ 35)) w.heap.size 38 A):=Lib.hid r1
 have HR:Hid (Row ((w.alloc (.cells A 38)).alloc (.cells ansZ 35)) (w.heap.size+1) 35 ansZ):=Lib.hid r2
 have HB:=Lib.hid hb
 have HC:=Lib.hid hs
 have HOK:=Lib.hid ok
 have H0:=Lib.hid h0
 have HK:=Lib.hid h.kt.kr.lt
 have HLT:Hid (w.heap.size+1<((w.alloc (.cells A 38)).alloc (.cells ansZ 35)).heap.size):=Lib.hid HR.out.lt
 have HAS:=Lib.hid hA
 clear hb r1 r2 hA ha hs ok h0 h hd hF h01 p1 p16 hj
 have hzz:ansZ=#[.int .i64 0,.int .i64 0,.int .i64 0,.slice none 0 0,.slice none 0 0,.int .i64 0,.int .i64 0,.int .i64 0,.int .i64 0,.int .i64 0,.int .i64 0]:=rfl
 rw[hzz] at d0 d1 q6 HG HR1 HB HLT
 have HR:Hid (Row ((w.alloc (.cells A 38)).alloc (.cells #[.int .i64 0,.int .i64 0,.int .i64 0,.slice none 0 0,.slice none 0 0,.int .i64 0,.int .i64 0,.int .i64 0,.int .i64 0,.int .i64 0,.int .i64 0] 35)) (w.heap.size+1) 35 ansZ):=HR
 go_enter Tryz.func37,Tryz.ntmps37
 go_upto_region 1 with fail
 generalize (w.alloc (.cells A 38)).alloc (.cells #[.int .i64 0,.int .i64 0,.int .i64 0,.slice none 0 0,.slice none 0 0,.int .i64 0,.int .i64 0,.int .i64 0,.int .i64 0,.int .i64 0,.int .i64 0] 35)=w1 at *
 go_upto_region 16 with fail
 have HKK:Hid (∀w2,Below w1.heap.size w1 w2→w2.cell? ⟨k.K,6,none⟩=some (.pointer (some ⟨k.Fi,0,none⟩))∧w2.cell? ⟨w.heap.size,1,none⟩=some (.int .i64 j)):=Lib.hid fun w2 hu=>⟨(hu.cell (p:=⟨k.K,6,none⟩) (World.block_lt_of_cell? w1 _ q6)).trans q6,(hu.cell (p:=⟨w.heap.size,1,none⟩) (World.block_lt_of_cell? w1 _ d1)).trans d1⟩
 have hbd:=(Below.refl w1.heap.size w1).drew
 have hbz:=Go.Joins.below_alloc1 w1 (.cells #[.int .i64 0,.int .i64 0,.int .i64 0,.bool false,.int .i64 0] 160)
 have hS1:=HKK.out _ hbz.drew
 go_region_held3 (fun wx=>wx.cell? ⟨k.K,6,none⟩=some (.pointer (some ⟨k.Fi,0,none⟩))∧wx.cell? ⟨w.heap.size,1,none⟩=some (.int .i64 j)) (first|exact⟨q6,d1⟩|exact hS1|exact hS2|exact hS3|exact hS4|assumption)
  (first|((go_at_call 79;(with_reducible refine(HG.out w1.drew hbd).mono ?_);rintro e2 w2 ⟨rfl,hb2⟩;have hb2:=hbd.trans hb2;have hb3:=hb2.trans ((Go.Joins.below_alloc1 w2 (.cells #[.int .i64 0,.int .i64 0,.int .i64 0,.bool false,.int .i64 0] 160)).mono hb2.size);have hst:=st0_new w2 (T:=160) (c:=#[.int .i64 0,.int .i64 0,.int .i64 0,.bool false,.int .i64 0]) (cs:=#[.int .i64 1,.int .i64 2,.int .i64 3,.bool false,.int .i64 a]) rfl (by kernel_rfl) (by simp[Value.oneCell']);have hb4:=hb2.trans ((Go.Joins.below_alloc1 w2 (.cells #[.int .i64 1,.int .i64 2,.int .i64 3,.bool false,.int .i64 a] 160)).mono hb2.size);have hS2:=HKK.out w2 hb2;have hS3:=HKK.out _ hb3;have hS4:=HKK.out _ hb4;have HB4:=Lib.hid hb4;have HRT:=Lib.hid (row_new w2 160 #[.int .i64 1,.int .i64 2,.int .i64 3,.bool false,.int .i64 a]);clear hb2 hb3 hb4;obtain⟨w5,hw5⟩:∃w5,w5=w2.alloc (.cells #[.int .i64 1,.int .i64 2,.int .i64 3,.bool false,.int .i64 a] 160):=⟨_,rfl⟩;rw[← hw5] at hst hS4 HB4 HRT;clear hw5))|((go_at_call 79;(with_reducible refine(HG.out _ hbz.drew).mono ?_);rintro e2 w2 ⟨rfl,hb2⟩;have hr2:=(row_new w1 160 #[.int .i64 0,.int .i64 0,.int .i64 0,.bool false,.int .i64 0]).drew.keep hb2;have hst:=hr2.st0 (cs:=#[.int .i64 1,.int .i64 2,.int .i64 3,.bool false,.int .i64 a]) rfl (by kernel_rfl) (by simp[Value.oneCell']);have hb2:=hbz.drew.trans (hb2.mono hbz.drew.size);have hb4:Below w1.heap.size w1 (w2.setRow w1.heap.size #[.int .i64 1,.int .i64 2,.int .i64 3,.bool false,.int .i64 a]):=((Upd.below (S:=fun k=>k=w1.heap.size) hb2).trans (Upd.setRow _ _ rfl)).toBelow (Nat.le_refl _) (fun k hk e=>by omega);have hS2:=HKK.out w2 hb2;have hS4:=HKK.out _ hb4;have HB4:=Lib.hid hb4;have HRT:=Lib.hid (hr2.setRow #[.int .i64 1,.int .i64 2,.int .i64 3,.bool false,.int .i64 a]);clear hb2 hb4 hr2;obtain⟨w5,hw5⟩:∃w5,w5=w2.setRow w1.heap.size #[.int .i64 1,.int .i64 2,.int .i64 3,.bool false,.int .i64 a]:=⟨_,rfl⟩;rw[← hw5] at hst hS4 HB4 HRT;clear hw5)))
 all_goals
  have hb5:=HB4.out
  have HR5:=Lib.hid (HR.out.keep hb5)
  have hr1:=HR1.out.keep hb5
  have e0:w5.cell? ⟨w.heap.size,0,none⟩=some (.int .i64 8):=(hb5.cell (p:=⟨w.heap.size,0,none⟩) (World.block_lt_of_cell? w1 _ d0)).trans d0
  have l1:=tld_callR hr1 HAS.out
  have l2:=HRT.out.ld0 (d:=_) Tryz.underlying160 rfl (by kernel_rfl)
  have HB5:=Lib.hid (HB.out.trans (hb5.mono HB.out.size))
  have HC5:=Lib.hid (HC.out w5 (H0.out.trans (HB5.out.mono H0.out.size)))
  have HL5:=Lib.hid (Nat.lt_of_lt_of_le HLT.out hb5.size)
  clear hb5 hr1 hS1 hS2 hS4 hst hbd hbz HKK HRT HB4 HC HG HR HR1 HB HLT d0 d1 q6
  (try clear hS3)
  go_wp2_with (go_at_call 81;refine HC5.out.mono ?_;rintro e6 w6 ⟨X,rfl,hX,hone,hu,ho⟩;have hr:=ans_row H0.out HR5.out (Nat.le_succ _) hu;have hst:=ans_st hr hX hone;have HLD:=Lib.hid (ans_ldV hr hX);have HP:=Lib.hid (HOK.out.put (C:=X) H0.out HB5.out hu ho (Nat.le_succ _) HL5.out);have HX:=Lib.hid (And.intro hX hone);clear hr hX hone hu ho;generalize w6.setRow (w.heap.size+1) X=w7 at *)
  exact bodyPost_ret (v:=.agg X) (by rw[results_cell1 rfl];simp[asAddr,Result.andThen,HLD.out]) rfl ⟨X,rfl,HX.out.1,HX.out.2,HP.out.1,HP.out.2⟩
theorem descR_is (ok:OutOk w0 Out)(h:KF w0 k s fc x) (p1:1≤p) (p16:p≤16) {j k0:Nat}(hj:j<8)(hd:s.fd (p*8+j)=k0+1) {a:Int}(hF:OpenLaw.thing (s.fs k0)=.agg (thF a))(hA:A.size=7)(ha:A[0]?=some (.int .i64 7))(ha1:A[1]?=some (.int .i64 j))(hs:Spec w0 Out 80 #[.pointer (some ⟨k.K,0,none⟩),.int .i64 p,.agg A,.agg (thF a)]) :
  Spec w0 Out 37 #[.pointer (some ⟨k.K,0,none⟩),.int .i64 p,.agg A]:=by
 intro w h0
 obtain⟨hb,r1,r2⟩:=alloc2f w (.cells A 38) (.cells ansZ 35)
 have d0:=cell_of_row _ w.heap.size 0 _ _ (0,0) r1
 rw[ha] at d0
 have d1:=cell_of_row _ w.heap.size 1 _ _ (0,0) r1
 rw[ha1] at d1
 have h01:=h0.trans (hb.mono h0.size)
 have q6:((w.alloc (.cells A 38)).alloc (.cells ansZ 35)).cell? ⟨k.K,6,none⟩=some (.pointer (some ⟨k.Fi,0,none⟩)):=by rw[(h.keep h01).kt.kr.cell (by decide),h.kt.c6]
 have hz1:thF a=#[.int .i64 1,.int .i64 2,.int .i64 3,.bool false,.int .i64 a]:=rfl
 rw[hz1] at hF hs
 have HG:Hid (∀wx,Below ((w.alloc (.cells A 38)).alloc (.cells ansZ 35)).heap.size ((w.alloc (.cells A 38)).alloc (.cells ansZ 35)) wx→Calls Tryz.prog 79 #[.pointer (some ⟨k.Fi,0,none⟩),.int .i64 p,.int .i64 j] wx fun e w'=>e=.returned (.tuple #[.agg #[.int .i64 1,.int .i64 2,.int .i64 3,.bool false,.int .i64 a],.int .i64 0])∧Below wx.heap.size wx w'):=Lib.hid fun wx hx=>hF ▸ OpenLaw.get_is ((h.keep h01).keep hx).kt.fi p1 p16 hj hd
 have HR1:Hid (Row ((w.alloc (.cells A 38)).alloc (.cells ansZ 35)) w.heap.size 38 A):=Lib.hid r1
 have HR:Hid (Row ((w.alloc (.cells A 38)).alloc (.cells ansZ 35)) (w.heap.size+1) 35 ansZ):=Lib.hid r2
 have HB:=Lib.hid hb
 have HC:=Lib.hid hs
 have HOK:=Lib.hid ok
 have H0:=Lib.hid h0
 have HK:=Lib.hid h.kt.kr.lt
 have HLT:Hid (w.heap.size+1<((w.alloc (.cells A 38)).alloc (.cells ansZ 35)).heap.size):=Lib.hid HR.out.lt
 have HAS:=Lib.hid hA
 clear hb r1 r2 hA ha hs ok h0 h hd hF h01 p1 p16 hj
 have hzz:ansZ=#[.int .i64 0,.int .i64 0,.int .i64 0,.slice none 0 0,.slice none 0 0,.int .i64 0,.int .i64 0,.int .i64 0,.int .i64 0,.int .i64 0,.int .i64 0]:=rfl
 rw[hzz] at d0 d1 q6 HG HR1 HB HLT
 have HR:Hid (Row ((w.alloc (.cells A 38)).alloc (.cells #[.int .i64 0,.int .i64 0,.int .i64 0,.slice none 0 0,.slice none 0 0,.int .i64 0,.int .i64 0,.int .i64 0,.int .i64 0,.int .i64 0,.int .i64 0] 35)) (w.heap.size+1) 35 ansZ):=HR
 go_enter Tryz.func37,Tryz.ntmps37
 go_upto_region 1 with fail
 generalize (w.alloc (.cells A 38)).alloc (.cells #[.int .i64 0,.int .i64 0,.int .i64 0,.slice none 0 0,.slice none 0 0,.int .i64 0,.int .i64 0,.int .i64 0,.int .i64 0,.int .i64 0,.int .i64 0] 35)=w1 at *
 go_upto_region 16 with fail
 have HKK:Hid (∀w2,Below w1.heap.size w1 w2→w2.cell? ⟨k.K,6,none⟩=some (.pointer (some ⟨k.Fi,0,none⟩))∧w2.cell? ⟨w.heap.size,1,none⟩=some (.int .i64 j)):=Lib.hid fun w2 hu=>⟨(hu.cell (p:=⟨k.K,6,none⟩) (World.block_lt_of_cell? w1 _ q6)).trans q6,(hu.cell (p:=⟨w.heap.size,1,none⟩) (World.block_lt_of_cell? w1 _ d1)).trans d1⟩
 have hbd:=(Below.refl w1.heap.size w1).drew
 have hbz:=Go.Joins.below_alloc1 w1 (.cells #[.int .i64 0,.int .i64 0,.int .i64 0,.bool false,.int .i64 0] 160)
 have hS1:=HKK.out _ hbz.drew
 go_region_held3 (fun wx=>wx.cell? ⟨k.K,6,none⟩=some (.pointer (some ⟨k.Fi,0,none⟩))∧wx.cell? ⟨w.heap.size,1,none⟩=some (.int .i64 j)) (first|exact⟨q6,d1⟩|exact hS1|exact hS2|exact hS3|exact hS4|assumption)
  (first|((go_at_call 79;(with_reducible refine(HG.out w1.drew hbd).mono ?_);rintro e2 w2 ⟨rfl,hb2⟩;have hb2:=hbd.trans hb2;have hb3:=hb2.trans ((Go.Joins.below_alloc1 w2 (.cells #[.int .i64 0,.int .i64 0,.int .i64 0,.bool false,.int .i64 0] 160)).mono hb2.size);have hst:=st0_new w2 (T:=160) (c:=#[.int .i64 0,.int .i64 0,.int .i64 0,.bool false,.int .i64 0]) (cs:=#[.int .i64 1,.int .i64 2,.int .i64 3,.bool false,.int .i64 a]) rfl (by kernel_rfl) (by simp[Value.oneCell']);have hb4:=hb2.trans ((Go.Joins.below_alloc1 w2 (.cells #[.int .i64 1,.int .i64 2,.int .i64 3,.bool false,.int .i64 a] 160)).mono hb2.size);have hS2:=HKK.out w2 hb2;have hS3:=HKK.out _ hb3;have hS4:=HKK.out _ hb4;have HB4:=Lib.hid hb4;have HRT:=Lib.hid (row_new w2 160 #[.int .i64 1,.int .i64 2,.int .i64 3,.bool false,.int .i64 a]);clear hb2 hb3 hb4;obtain⟨w5,hw5⟩:∃w5,w5=w2.alloc (.cells #[.int .i64 1,.int .i64 2,.int .i64 3,.bool false,.int .i64 a] 160):=⟨_,rfl⟩;rw[← hw5] at hst hS4 HB4 HRT;clear hw5))|((go_at_call 79;(with_reducible refine(HG.out _ hbz.drew).mono ?_);rintro e2 w2 ⟨rfl,hb2⟩;have hr2:=(row_new w1 160 #[.int .i64 0,.int .i64 0,.int .i64 0,.bool false,.int .i64 0]).drew.keep hb2;have hst:=hr2.st0 (cs:=#[.int .i64 1,.int .i64 2,.int .i64 3,.bool false,.int .i64 a]) rfl (by kernel_rfl) (by simp[Value.oneCell']);have hb2:=hbz.drew.trans (hb2.mono hbz.drew.size);have hb4:Below w1.heap.size w1 (w2.setRow w1.heap.size #[.int .i64 1,.int .i64 2,.int .i64 3,.bool false,.int .i64 a]):=((Upd.below (S:=fun k=>k=w1.heap.size) hb2).trans (Upd.setRow _ _ rfl)).toBelow (Nat.le_refl _) (fun k hk e=>by omega);have hS2:=HKK.out w2 hb2;have hS4:=HKK.out _ hb4;have HB4:=Lib.hid hb4;have HRT:=Lib.hid (hr2.setRow #[.int .i64 1,.int .i64 2,.int .i64 3,.bool false,.int .i64 a]);clear hb2 hb4 hr2;obtain⟨w5,hw5⟩:∃w5,w5=w2.setRow w1.heap.size #[.int .i64 1,.int .i64 2,.int .i64 3,.bool false,.int .i64 a]:=⟨_,rfl⟩;rw[← hw5] at hst hS4 HB4 HRT;clear hw5)))
 all_goals
  have hb5:=HB4.out
  have HR5:=Lib.hid (HR.out.keep hb5)
  have hr1:=HR1.out.keep hb5
  have e0:w5.cell? ⟨w.heap.size,0,none⟩=some (.int .i64 7):=(hb5.cell (p:=⟨w.heap.size,0,none⟩) (World.block_lt_of_cell? w1 _ d0)).trans d0
  have l1:=tld_callR hr1 HAS.out
  have l2:=HRT.out.ld0 (d:=_) Tryz.underlying160 rfl (by kernel_rfl)
  have HB5:=Lib.hid (HB.out.trans (hb5.mono HB.out.size))
  have HC5:=Lib.hid (HC.out w5 (H0.out.trans (HB5.out.mono H0.out.size)))
  have HL5:=Lib.hid (Nat.lt_of_lt_of_le HLT.out hb5.size)
  clear hb5 hr1 hS1 hS2 hS4 hst hbd hbz HKK HRT HB4 HC HG HR HR1 HB HLT d0 d1 q6
  (try clear hS3)
  go_wp2_with (go_at_call 80;refine HC5.out.mono ?_;rintro e6 w6 ⟨X,rfl,hX,hone,hu,ho⟩;have hr:=ans_row H0.out HR5.out (Nat.le_succ _) hu;have hst:=ans_st hr hX hone;have HLD:=Lib.hid (ans_ldV hr hX);have HP:=Lib.hid (HOK.out.put (C:=X) H0.out HB5.out hu ho (Nat.le_succ _) HL5.out);have HX:=Lib.hid (And.intro hX hone);clear hr hX hone hu ho;generalize w6.setRow (w.heap.size+1) X=w7 at *)
  exact bodyPost_ret (v:=.agg X) (by rw[results_cell1 rfl];simp[asAddr,Result.andThen,HLD.out]) rfl ⟨X,rfl,HX.out.1,HX.out.2,HP.out.1,HP.out.2⟩
theorem doW_is {K:Nat} {q:Int} (ok:OutOk w0 Out) {num:Int}(hn:num=7∨num=8∨num=9)(hA:A.size=7)(ha:A[0]?=some (.int .i64 num))(hs:Spec w0 Out 37 #[.pointer (some ⟨K,0,none⟩),.int .i64 q,.agg A]) :
  Spec w0 Out 18 #[.pointer (some ⟨K,0,none⟩),.int .i64 q,.agg A]:=by
 intro w h0
 have hb1:=Go.Joins.below_alloc1 w (.cells A 38)
 have hal:Below w.heap.size w ((w.alloc (.cells A 38)).alloc (.cells ansZ 35)):=hb1.trans ((Go.Joins.below_alloc1 _ _).mono hb1.size)
 have hr1:=(row_new w 38 A).alloc (.cells ansZ 35)
 have hr2:=row_new (w.alloc (.cells A 38)) 35 ansZ
 rw[size_alloc1] at hr2
 have d0:((w.alloc (.cells A 38)).alloc (.cells ansZ 35)).cell? ⟨w.heap.size,0,none⟩=some (.int .i64 num):=by rw[hr1.cell,ha]
 have l2:=ld_callR hr1 hA
 have HR:Hid (Row ((w.alloc (.cells A 38)).alloc (.cells #[.int .i64 0,.int .i64 0,.int .i64 0,.slice none 0 0,.slice none 0 0,.int .i64 0,.int .i64 0,.int .i64 0,.int .i64 0,.int .i64 0,.int .i64 0] 35)) (w.heap.size+1) 35 ansZ):=Lib.hid hr2
 have HB:=Lib.hid hal
 have HC:=Lib.hid (hs _ (h0.trans (hal.mono h0.size)))
 have HOK:=Lib.hid ok
 have H0:=Lib.hid h0
 have HLT:=Lib.hid hr2.lt
 clear hal hr1 hr2 hA hs ok h0 ha hb1
 have hz:ansZ=#[.int .i64 0,.int .i64 0,.int .i64 0,.slice none 0 0,.slice none 0 0,.int .i64 0,.int .i64 0,.int .i64 0,.int .i64 0,.int .i64 0,.int .i64 0]:=rfl
 rw[hz] at d0 l2 HB HC HLT
 rcases hn with rfl|rfl|rfl
 all_goals
  go_enter Tryz.func18,Tryz.ntmps18
  go_upto_region 1 with fail
  generalize (w.alloc (.cells A 38)).alloc (.cells #[.int .i64 0,.int .i64 0,.int .i64 0,.slice none 0 0,.slice none 0 0,.int .i64 0,.int .i64 0,.int .i64 0,.int .i64 0,.int .i64 0,.int .i64 0] 35)=w1 at *
  go_wp2_with (go_at_call 37;refine HC.out.mono ?_;rintro e2 w2 ⟨X,rfl,hX,hone,hu,ho⟩;have hr:=ans_row H0.out HR.out (Nat.le_succ _) hu;have hst:=ans_st hr hX hone;have HLD:=Lib.hid (ans_ldV hr hX);have HP:=Lib.hid (HOK.out.put (C:=X) H0.out HB.out hu ho (Nat.le_succ _) HLT.out);have HX:=Lib.hid (And.intro hX hone);clear hr hX hone hu ho;generalize w2.setRow (w.heap.size+1) X=w3 at *)
  exact bodyPost_ret (v:=.agg X) (by rw[results_cell1 rfl];simp[asAddr,Result.andThen,HLD.out]) rfl ⟨X,rfl,HX.out.1,HX.out.2,HP.out.1,HP.out.2⟩
end
end Go.Proofs.YtfkepfncgdlgoaaGreatDoor
