/- The walk of kernel.open. The ways from do to open, and to process for SetId; what an answer of a call may be, with the file system. What kernel.open comes to: the three calls of the law of rights. The ways to "/f", where the file is there: path.start, path.Walk, kernel.walk, kernel.opened, kernel.open. What an answer with bytes may be, and how the kernel and its file system stand behind it. -/
import Derived.Test.YtfkepfncgdlgoaaGreatDoorRwB
import Derived.Test.YtfkepfncgdlgoaaGreatDoorFwB
namespace Go.Proofs.YtfkepfncgdlgoaaGreatDoor
open Go.RowKit Go.Maps
open Go.RowKit
set_option linter.unusedVariables false
set_option linter.unusedSimpArgs false
set_option maxRecDepth 100000
set_option maxHeartbeats 1000000
theorem bd_aI (c:Int) (w:World):(bdR 35 #[(1,.int .i64 c)]).run Tryz.prog w=.ok (.agg (ansV 0 c 0 (.slice none 0 0))) w:=by kernel_rfl
theorem ansN3' (e a b:Int):(ansV e a b (.slice none 0 0)).size=11∧(ansV e a b (.slice none 0 0)).all (·.oneCell')=true:=⟨rfl,ansV_one _ _ _ rfl⟩
theorem tld_callR {w:World} {b:Nat} {A:Array Value}(hr:Row w b 38 A)(hA:A.size=7):(ldR 38 (.pointer (some ⟨b,0,none⟩))).run Tryz.prog w=.ok (.agg A) w:=hr.ld0 Tryz.underlying38 rfl (by rw[hA];kernel_rfl)
def OpenTo (s:KSt) (p:Nat) (W:Int) (j k0:Nat):KSt:={ s with fs:=OpenLaw.updF s.fs k0 ⟨1,2,W,false,0,1⟩,fd:=OpenLaw.updN s.fd (p*8+j) (k0+1) }
def heldTo (x:FM):FM:={ x with held:=fun j=>if j=2 then some (hcn (x.held 2)) else x.held j,nh:=x.nh+1 }
section
variable {w:World} {k:KC} {s:KSt} {fc:FC} {x:FM} {p:Nat}
theorem KF.hold {w':World}(h:KF w k s fc x)(hf:FSt w' fc (heldTo x))(hu:Upd (fun j=>j=fc.hb) w w'):KF w' k s fc (heldTo x):=
 ⟨h.kt.upd hu (fun j hj e=>hj (h.sep _ (h.fs.bm _ (.inr (.inr (.inl e)))))),h.c2,hf,h.sep⟩
theorem KF.files {w':World} {fs':Nat→OpenLaw.F} {fd':Nat→Nat}(h:KF w k s fc x)(hf:OpenLaw.OTab w' k.Fi fs' fd')(hu:Upd (fun j=>j=k.Fi) w w'):KF w' k { s with fs:=fs',fd:=fd' } fc x:=
 ⟨h.kt.files hf hu,h.c2,h.fs.upd hu (fun j hj e=>by have:=h.sep j hj;rw[e,h.kt.tFi] at this;cases this),h.sep⟩
theorem KF.upd {w':World} {S:Nat→Prop}(h:KF w k s fc x)(hu:Upd S w w')(h1:∀j,s.tag j≠0→¬S j)(h2:∀j,x.bs j→¬S j):KF w' k s fc x:=⟨h.kt.upd hu h1,h.c2,h.fs.upd hu h2,h.sep⟩
attribute [local go_sem ↓] ld_ans st_ans ld_call bd_ans
theorem kopenA_is (h:KF w k s fc x) (p1:1≤p) (p16:p≤16) {A:Array Value}(hA:A.size=7) {W B m:Int}(hA1:A[1]?=some (.int .i64 W))(hA2:A[2]?=some (.int .i64 B))(hA3:A[3]?=some (.int .i64 m))(hW:1≤W∧W≤3)(hBv:B=0∨B=1)(hm:0≤m∧m≤511) {P:FM→Prop}
  (hO:∀wx,Below w.heap.size w wx→Calls Tryz.prog 150 #[.pointer (some ⟨k.K,0,none⟩),.int .i64 p,.agg A] wx fun e w'=>e=.returned (.tuple #[.int .i64 2,.int .i64 0])∧∃x',KF w' k s fc x'∧P x'∧Upd x.bs wx w'∧∀j,x'.bs j→x.bs j∨wx.heap.size≤j)
  (hP:∀x',P x'→¬(x'.nd 1).k=0∧x'.nh<1000∧hcn (x'.held 2)<1000) (hf1:∃j,j<8∧s.fd (p*8+j)=0) (hf2:∃k0,k0<32∧(s.fs k0).n=0) :
  Calls Tryz.prog 75 #[.pointer (some ⟨k.K,0,none⟩),.int .i64 p,.agg A] w fun e w'=>∃j k0 x',j<8∧k0<32∧P x'∧KF w' k (OpenTo s p W j k0) fc (heldTo x')∧e=.returned (.agg (ansV 0 j 0 (.slice none 0 0)))∧Upd (fun i=>i=k.Fi∨x.bs i∨w.heap.size≤i) w w'∧∀i,x'.bs i→x.bs i∨w.heap.size≤i:=by
 have hb1:=Go.Joins.below_alloc1 w (.cells A 38)
 have hal:Below w.heap.size w ((w.alloc (.cells A 38)).alloc (.cells ansZ 35)):=hb1.trans ((Go.Joins.below_alloc1 _ _).mono hb1.size)
 have hr1:=(row_new w 38 A).alloc (.cells ansZ 35)
 have hr2:=row_new (w.alloc (.cells A 38)) 35 ansZ
 rw[size_alloc1] at hr2
 have d1:((w.alloc (.cells A 38)).alloc (.cells ansZ 35)).cell? ⟨w.heap.size,1,none⟩=some (.int .i64 W):=(hr1.cell 1).trans hA1
 have d2:((w.alloc (.cells A 38)).alloc (.cells ansZ 35)).cell? ⟨w.heap.size,2,none⟩=some (.int .i64 B):=(hr1.cell 2).trans hA2
 have d3:((w.alloc (.cells A 38)).alloc (.cells ansZ 35)).cell? ⟨w.heap.size,3,none⟩=some (.int .i64 m):=(hr1.cell 3).trans hA3
 have l2:=tld_callR hr1 hA
 have HO:=Lib.hid (hO _ hal)
 have HH:=Lib.hid h
 have HB:=Lib.hid hal
 have HP:=Lib.hid hP
 have HR:Hid (Row ((w.alloc (.cells A 38)).alloc (.cells #[.int .i64 0,.int .i64 0,.int .i64 0,.slice none 0 0,.slice none 0 0,.int .i64 0,.int .i64 0,.int .i64 0,.int .i64 0,.int .i64 0,.int .i64 0] 35)) (w.heap.size+1) 35 ansZ):=Lib.hid hr2
 have HC:=Lib.hid hr1
 have HAA:=Lib.hid (And.intro hA1 hA2)
 have HWW:=Lib.hid hW
 have HF1:=Lib.hid hf1
 have HF2:=Lib.hid hf2
 have HPP:=Lib.hid (And.intro p1 p16)
 have w1:¬W<1:=by omega
 have w2:¬3<W:=by omega
 have m1:¬m<0:=by omega
 have m2:¬511<m:=by omega
 have i17:(p:Int)<17:=by omega
 clear h p1 p16 hA hA1 hA2 hA3 hm hO hP hf1 hf2 hb1 hal hr1 hr2 hW
 have hz:ansZ=#[.int .i64 0,.int .i64 0,.int .i64 0,.slice none 0 0,.slice none 0 0,.int .i64 0,.int .i64 0,.int .i64 0,.int .i64 0,.int .i64 0,.int .i64 0]:=rfl
 rw[hz] at d1 d2 d3 l2 HB HC HO
 have b1:¬B<0:=by omega
 have b2:¬15<B:=by omega
 have y8:bits .and .i64 B 8=0:=by rcases hBv with rfl|rfl <;> decide
 clear hBv
 go_enter Tryz.func75,Tryz.ntmps75
 go_upto_region 1 with fail
 generalize (w.alloc (.cells A 38)).alloc (.cells #[.int .i64 0,.int .i64 0,.int .i64 0,.slice none 0 0,.slice none 0 0,.int .i64 0,.int .i64 0,.int .i64 0,.int .i64 0,.int .i64 0,.int .i64 0] 35)=v1 at *
 go_upto_region 6 with (go_at_call 150;(with_reducible refine HO.out.mono ?_);rintro e2 v2 ⟨rfl,x2,hk2,hp2,hu2,hs2⟩)
 have HK2:=Lib.hid hk2
 have hzz:∀j,x.bs j→j<w.heap.size:=HH.out.fs.lt
 have hne:∀i,w.heap.size≤i→¬x.bs i:=fun i hi e=>by have:=hzz i e;omega
 have HU2:=Lib.hid hu2
 have HS2:Hid (∀i,x2.bs i→x.bs i∨v1.heap.size≤i):=Lib.hid hs2
 have HC2:=Lib.hid (HC.out.upd hu2 (hne _ (Nat.le_refl _)))
 have HR2:=Lib.hid (HR.out.upd hu2 (hne _ (Nat.le_succ _)))
 have HP2:=Lib.hid hp2
 have c2:=hk2.fsp
 have HHD:=Lib.hid (hold_is hk2.fs (i:=1) (by decide) (n:=2) rfl (HP.out _ hp2).1 (HP.out _ hp2).2.1 (HP.out _ hp2).2.2)
 clear hk2 hp2 hu2 hs2 HO d1 d2 d3 l2
 go_upto_region 9 with (go_at_call 151;(with_reducible refine HHD.out.mono ?_);rintro e3 v3 ⟨rfl,hf3,hu3⟩)
 have HK3:=Lib.hid (HK2.out.hold hf3 hu3)
 have HLT:Hid (w.heap.size+1<v1.heap.size):=Lib.hid HR.out.lt
 have hhb:∀i,w.heap.size≤i→i<v1.heap.size→¬i=fc.hb:=fun i h1 h2 e=>by
  have:=HS2.out fc.hb (HK2.out.fs.bm _ (.inr (.inr (.inl rfl))))
  rcases this with q|q
  ·exact hne _ h1 (e ▸ q)
  ·omega
 have HC3:=Lib.hid (HC2.out.upd hu3 (hhb _ (Nat.le_refl _) (by have:=HLT.out;omega)))
 have HR3:=Lib.hid (HR2.out.upd hu3 (hhb _ (Nat.le_succ _) HLT.out))
 have HU3:=Lib.hid hu3
 clear hf3 hu3 hhb HC2 HR2 HHD c2
 have HS:Hid (∀wx,Below v3.heap.size v3 wx→(wx.cell? ⟨k.K,6,none⟩=some (.pointer (some ⟨k.Fi,0,none⟩))∧wx.cell? ⟨w.heap.size,1,none⟩=some (.int .i64 W)∧wx.cell? ⟨w.heap.size,2,none⟩=some (.int .i64 B))):=Lib.hid (fun wx hb=>⟨by rw[(HK3.out.keep hb).kt.kr.cell (by decide),HK3.out.kt.c6],((HC3.out.keep hb).cell 1).trans HAA.out.1,((HC3.out.keep hb).cell 2).trans HAA.out.2⟩)
 have hFi:k.Fi<w.heap.size:=HH.out.kt.lt (by rw[HH.out.kt.tFi];decide)
 have hKF:k.K≠k.Fi:=fun e=>by
  have t1:=HH.out.kt.tK
  rw[e,HH.out.kt.tFi] at t1
  cases t1
 have HS4:Hid (∀wx w',Below v3.heap.size v3 wx→Upd (fun i=>i=k.Fi) wx w'→(w'.cell? ⟨k.K,6,none⟩=some (.pointer (some ⟨k.Fi,0,none⟩))∧w'.cell? ⟨w.heap.size,1,none⟩=some (.int .i64 W)∧w'.cell? ⟨w.heap.size,2,none⟩=some (.int .i64 B))):=Lib.hid (fun wx w' hb hu=>by
    obtain⟨t1,t2,t3⟩:=HS.out wx hb
    have lt:∀ {b o v},wx.cell? ⟨b,o,none⟩=some v→b<wx.heap.size:=fun e=>World.block_lt_of_cell? wx _ e
    exact⟨(hu.cell (lt t1) hKF).trans t1,(hu.cell (lt t2) (by omega)).trans t2,(hu.cell (lt t3) (by omega)).trans t3⟩)
 have HOP:Hid (∀wx,Below v3.heap.size v3 wx→Calls Tryz.prog 152 #[.pointer (some ⟨k.Fi,0,none⟩),.int .i64 p,.agg #[.int .i64 1,.int .i64 2,.int .i64 W,.bool false,.int .i64 0]] wx fun e w'=>∃j k0:Nat,j<8∧k0<32∧e=.returned (.tuple #[.int .i64 j,.int .i64 0])∧OpenLaw.OTab w' k.Fi (OpenLaw.updF s.fs k0 ⟨1,2,W,false,0,1⟩) (OpenLaw.updN s.fd (p*8+j) (k0+1))∧Upd (fun i=>i=k.Fi) wx w'):=Lib.hid (fun wx hb=>by
    refine(OpenLaw.open_is (kd:=1) (id:=2) (may:=W) (by decide) (by decide) (HK3.out.keep hb).kt.fi HPP.out.1 HPP.out.2 (by decide) (by have:=HWW.out;omega) HWW.out.2).mono ?_
    rintro e w' ⟨hkb,⟨j,k0,hj,-,-,hk0,-,-,rfl,ho⟩|⟨q,-⟩⟩
    · exact⟨j,k0,hj,hk0,rfl,ho,kb_upd hkb rfl⟩
    · exfalso
      rcases q with q|q
      · obtain⟨j,hj,e⟩:=HF1.out
        exact q j hj e
      · obtain⟨j,hj,e⟩:=HF2.out
        exact q j hj e)
 clear HAA HWW HF1 HF2 HPP
 go_region_held3 (fun wx=>wx.cell? ⟨k.K,6,none⟩=some (.pointer (some ⟨k.Fi,0,none⟩))∧wx.cell? ⟨w.heap.size,1,none⟩=some (.int .i64 W)∧wx.cell? ⟨w.heap.size,2,none⟩=some (.int .i64 B)) (first|(with_reducible exact HS.out _ (Below.refl _ _))|(with_reducible exact HS.out _ (Below.refl _ _).drew)|(with_reducible exact HS4.out _ _ (Below.refl _ _).drew HU4.out)|fail) (first|(go_at_call 152;(with_reducible refine(HOP.out _ (Below.refl _ _).drew).mono ?_);rintro e4 v4 ⟨j,k0,hj,hk0,rfl,ho4,hu4⟩;have HU4:=Lib.hid hu4;have HO4:=Lib.hid (And.intro hj (And.intro hk0 ho4));clear hj hk0 ho4 hu4)|fail)
 have HK4:=Lib.hid ((HK3.out.keep (Below.refl _ _).drew).files HO4.out.2.2 HU4.out)
 have hr4:=HR3.out.drew.upd HU4.out (by omega)
 obtain⟨hX,hone⟩:=ansN3' 0 (j:Int) 0
 have hst:=ans_st hr4 hX hone
 have HLD:=Lib.hid (ans_ldV hr4 hX)
 have hbd:=bd_aI (j:Int)
 have hu5:Upd (fun i=>i=w.heap.size+1) v4 (v4.setRow (w.heap.size+1) (ansV 0 j 0 (.slice none 0 0))):=Upd.setRow v4 _ rfl
 have HFIN:Hid (KF (v4.setRow (w.heap.size+1) (ansV 0 j 0 (.slice none 0 0))) k (OpenTo s p W j k0) fc (heldTo x2)∧Upd (fun i=>i=k.Fi∨x.bs i∨w.heap.size≤i) w (v4.setRow (w.heap.size+1) (ansV 0 j 0 (.slice none 0 0)))∧∀i,x2.bs i→x.bs i∨w.heap.size≤i):=Lib.hid (by
    have hlt1:=HLT.out
    have hs:∀i,x2.bs i→x.bs i∨w.heap.size+2≤i:=fun i e=>(HS2.out i e).imp_right fun q=>by omega
    have hz:∀i,s.tag i≠0→i<w.heap.size:=fun i e=>HH.out.kt.lt e
    refine⟨HK4.out.upd hu5 (fun i hi e=>?_) (fun i hi e=>?_),?_,fun i e=>(hs i e).imp_right fun q=>by omega⟩
    · have:=hz i hi;omega
    · rcases hs i hi with q|q
      · have:=hzz i q;omega
      · omega
    · have hhb:x.bs fc.hb∨w.heap.size≤fc.hb:=(hs fc.hb (HK2.out.fs.bm _ (.inr (.inr (.inl rfl))))).imp_right fun q=>by omega
      refine(((Upd.below HB.out).trans (HU2.out.mono fun i _ e=>.inr (.inl e))).trans (HU3.out.mono fun i _ e=>?_)).trans ((Upd.below (Below.refl v3.heap.size v3).drew).trans ((HU4.out.mono fun i _ e=>.inl e).trans (hu5.mono fun i _ e=>.inr (.inr (by omega)))))
      rw[e]
      exact .inr hhb)
 have HX:=Lib.hid (And.intro HO4.out.1 (And.intro HO4.out.2.1 HP2.out))
 clear hr4 hX hone hu5 HK4 HU4 HO4 HS HS4 HOP hFi hKF hzz hne
 generalize hZ:ansV 0 (j:Int) 0 (.slice none 0 0)=Z at hst HLD hbd HFIN ⊢
 have HZ:=Lib.hid hZ
 clear hZ
 go_wp2_with fail
 exact bodyPost_ret (v:=.agg Z) (by rw[results_cell1 rfl];simp[asAddr,Result.andThen,HLD.out]) rfl ⟨j,k0,x2,HX.out.1,HX.out.2.1,HX.out.2.2,HFIN.out.1,by rw[HZ.out],HFIN.out.2⟩
end
def KOutF (B0:Nat) (k:KC) (fc:FC) (tag0:Nat→Nat) (bs0:Nat→Prop) (T:KSt→FM→Nat→Int→Int→Int→Prop) (w:World) (X:Array Value) (w':World):Prop:=
 ∃s x g e a b,KF w' k s fc x∧FarT tag0 w.heap.size s.tag∧(∀j,x.bs j→bs0 j∨w.heap.size≤j)∧w'.cell? ⟨g,0,none⟩=some (.int .i64 1)∧(g<B0∨w.heap.size≤g)∧X=ansV e a b (.slice none 0 0)∧T s x g e a b∧Upd (fun j=>tag0 j≠0∨bs0 j∨w.heap.size≤j) w w'
section
variable {w0 w:World} {Out:World→Array Value→World→Prop} {k:KC} {s:KSt} {p b0 b1 b2:Nat} {A:Array Value}
attribute [local go_sem ↓] ld_ans st_ans ld_call
theorem descO_is {K:Nat} {q:Int} (ok:OutOk w0 Out) {num:Int}(hn:num=5)(hA:A.size=7)(ha:A[0]?=some (.int .i64 num))(hs:Spec w0 Out 75 #[.pointer (some ⟨K,0,none⟩),.int .i64 q,.agg A]) :
  Spec w0 Out 37 #[.pointer (some ⟨K,0,none⟩),.int .i64 q,.agg A]:=by
 intro w h0
 have hb1:=Go.Joins.below_alloc1 w (.cells A 38)
 have hal:Below w.heap.size w ((w.alloc (.cells A 38)).alloc (.cells ansZ 35)):=hb1.trans ((Go.Joins.below_alloc1 _ _).mono hb1.size)
 have hr1:=(row_new w 38 A).alloc (.cells ansZ 35)
 have hr2:=row_new (w.alloc (.cells A 38)) 35 ansZ
 rw[size_alloc1] at hr2
 have d0:((w.alloc (.cells A 38)).alloc (.cells ansZ 35)).cell? ⟨w.heap.size,0,none⟩=some (.int .i64 num):=by rw[hr1.cell,ha]
 have l2:=ld_callR hr1 hA
 have HR:Hid (Row ((w.alloc (.cells A 38)).alloc (.cells #[.int .i64 0,.int .i64 0,.int .i64 0,.slice none 0 0,.slice none 0 0,.int .i64 0,.int .i64 0,.int .i64 0,.int .i64 0,.int .i64 0,.int .i64 0] 35)) (w.heap.size+1) 35 ansZ):=Lib.hid hr2
 have HB:=Lib.hid hal
 have HC:=Lib.hid (hs _ (h0.trans (hal.mono h0.size)))
 have HOK:=Lib.hid ok
 have H0:=Lib.hid h0
 have HLT:=Lib.hid hr2.lt
 clear hal hr1 hr2 hA hs ok h0 ha hb1
 have hz:ansZ=#[.int .i64 0,.int .i64 0,.int .i64 0,.slice none 0 0,.slice none 0 0,.int .i64 0,.int .i64 0,.int .i64 0,.int .i64 0,.int .i64 0,.int .i64 0]:=rfl
 rw[hz] at d0 l2 HB HC HLT
 subst hn
 all_goals
  go_enter Tryz.func37,Tryz.ntmps37
  go_upto_region 1 with fail
  generalize (w.alloc (.cells A 38)).alloc (.cells #[.int .i64 0,.int .i64 0,.int .i64 0,.slice none 0 0,.slice none 0 0,.int .i64 0,.int .i64 0,.int .i64 0,.int .i64 0,.int .i64 0,.int .i64 0] 35)=w1 at *
  go_wp2_with (go_at_call 75;refine HC.out.mono ?_;rintro e2 w2 ⟨X,rfl,hX,hone,hu,ho⟩;have hr:=ans_row H0.out HR.out (Nat.le_succ _) hu;have hst:=ans_st hr hX hone;have HLD:=Lib.hid (ans_ldV hr hX);have HP:=Lib.hid (HOK.out.put (C:=X) H0.out HB.out hu ho (Nat.le_succ _) HLT.out);have HX:=Lib.hid (And.intro hX hone);clear hr hX hone hu ho;generalize w2.setRow (w.heap.size+1) X=w3 at *)
  exact bodyPost_ret (v:=.agg X) (by rw[results_cell1 rfl];simp[asAddr,Result.andThen,HLD.out]) rfl ⟨X,rfl,HX.out.1,HX.out.2,HP.out.1,HP.out.2⟩
theorem doD_is {K:Nat} {q:Int} (ok:OutOk w0 Out) {num:Int}(hn:num=5)(hA:A.size=7)(ha:A[0]?=some (.int .i64 num))(hs:Spec w0 Out 37 #[.pointer (some ⟨K,0,none⟩),.int .i64 q,.agg A]) :
  Spec w0 Out 18 #[.pointer (some ⟨K,0,none⟩),.int .i64 q,.agg A]:=by
 intro w h0
 have hb1:=Go.Joins.below_alloc1 w (.cells A 38)
 have hal:Below w.heap.size w ((w.alloc (.cells A 38)).alloc (.cells ansZ 35)):=hb1.trans ((Go.Joins.below_alloc1 _ _).mono hb1.size)
 have hr1:=(row_new w 38 A).alloc (.cells ansZ 35)
 have hr2:=row_new (w.alloc (.cells A 38)) 35 ansZ
 rw[size_alloc1] at hr2
 have d0:((w.alloc (.cells A 38)).alloc (.cells ansZ 35)).cell? ⟨w.heap.size,0,none⟩=some (.int .i64 num):=by rw[hr1.cell,ha]
 have l2:=ld_callR hr1 hA
 have HR:Hid (Row ((w.alloc (.cells A 38)).alloc (.cells #[.int .i64 0,.int .i64 0,.int .i64 0,.slice none 0 0,.slice none 0 0,.int .i64 0,.int .i64 0,.int .i64 0,.int .i64 0,.int .i64 0,.int .i64 0] 35)) (w.heap.size+1) 35 ansZ):=Lib.hid hr2
 have HB:=Lib.hid hal
 have HC:=Lib.hid (hs _ (h0.trans (hal.mono h0.size)))
 have HOK:=Lib.hid ok
 have H0:=Lib.hid h0
 have HLT:=Lib.hid hr2.lt
 clear hal hr1 hr2 hA hs ok h0 ha hb1
 have hz:ansZ=#[.int .i64 0,.int .i64 0,.int .i64 0,.slice none 0 0,.slice none 0 0,.int .i64 0,.int .i64 0,.int .i64 0,.int .i64 0,.int .i64 0,.int .i64 0]:=rfl
 rw[hz] at d0 l2 HB HC HLT
 subst hn
 all_goals
  go_enter Tryz.func18,Tryz.ntmps18
  go_upto_region 1 with fail
  generalize (w.alloc (.cells A 38)).alloc (.cells #[.int .i64 0,.int .i64 0,.int .i64 0,.slice none 0 0,.slice none 0 0,.int .i64 0,.int .i64 0,.int .i64 0,.int .i64 0,.int .i64 0,.int .i64 0] 35)=w1 at *
  go_wp2_with (go_at_call 37;refine HC.out.mono ?_;rintro e2 w2 ⟨X,rfl,hX,hone,hu,ho⟩;have hr:=ans_row H0.out HR.out (Nat.le_succ _) hu;have hst:=ans_st hr hX hone;have HLD:=Lib.hid (ans_ldV hr hX);have HP:=Lib.hid (HOK.out.put (C:=X) H0.out HB.out hu ho (Nat.le_succ _) HLT.out);have HX:=Lib.hid (And.intro hX hone);clear hr hX hone hu ho;generalize w2.setRow (w.heap.size+1) X=w3 at *)
  exact bodyPost_ret (v:=.agg X) (by rw[results_cell1 rfl];simp[asAddr,Result.andThen,HLD.out]) rfl ⟨X,rfl,HX.out.1,HX.out.2,HP.out.1,HP.out.2⟩
end
def MayIs (n:Nd) (U K:Int) (a:Option Addr) (cap:Nat) (W:Int) (ok:Bool):Prop:=∀w,Calls Tryz.prog 167 #[.agg (stA n),.agg (crA U K a cap),.int .i64 W] w fun e w'=>e=.returned (.tuple #[.bool ok,.int .i64 0])∧Below w.heap.size w w'
theorem may_root {n:Nd}(hk:n.k=2)(hm:n.m=493)(hu:n.u=0)(hg:n.g=0) (a:Option Addr) (cap:Nat)(hc:cap≤maxLen) {W:Int}(hW:W=4∨W=2):MayIs n 0 127 a cap W true:=by
 intro w
 have hb:=fun w=>bitsE_is w n (M:=493) (by rw[hm];rfl) (K:=127) a cap
 rw[hu] at hb
 have hz:(W=1∧(if W=4 then (1:Int) else 2)=4)∨(W=2∧(if W=4 then (1:Int) else 2)=2)∨(W=4∧(if W=4 then (1:Int) else 2)=1):=by
  rcases hW with rfl|rfl
  ·exact .inr (.inr ⟨rfl,rfl⟩)
  ·exact .inr (.inl ⟨rfl,rfl⟩)
 have h:=may_is w n (by rw[hm];decide) (by rw[hu];decide) (by rw[hg];decide) (U:=0) (K:=127) (by decide) (.inr rfl) a cap hc hb hz
 have e:(bits .andNot .i64 (if W=4 then (1:Int) else 2) (bits .or .i64 ((493 / 64:Nat):Int) (if (127:Int)=0 then 0 else if n.k=2 then 7 else 6)) == 0)=true:=by
  rw[hk]
  rcases hW with rfl|rfl <;> decide
 rw[e] at h
 exact h
section
variable {w0 w:World} {k:KC} {s:KSt} {fc:FC} {x:FM} {p:Nat} {U K:Int} {a:Option Addr} {cap gc cc:Nat} {A:Array Value}
theorem spec_openN (h:KF w0 k s fc x) (q:Who w0 s p 0 127 a cap gc cc) (p1:1≤p) {q0:Nat}(hr:Root0 x q0)(hna:x.na≤2) {m:Int}(hm:0≤m∧m≤511)(hA:A.size=7)(hA1:A[1]?=some (.int .i64 3))(hA2:A[2]?=some (.int .i64 1))(hA3:A[3]?=some (.int .i64 m))(hA4:A[4]?=some (.string ⟨#[102]⟩))
  (hh:x.nh<1000∧hcn (x.held 2)<1000) (hf1:∃j,j<8∧s.fd (p*8+j)=0) (hf2:∃k0,k0<32∧(s.fs k0).n=0) (hg1:¬x.bs gc) (hg2:gc≠k.Fi) :
  Spec w0 (KOutF w0.heap.size k fc s.tag x.bs (fun s' x' g e av _=>e=0∧∃j k0:Nat,j<8∧k0<32∧s'=OpenTo s p 3 j k0∧FileF x' q0 m∧x'.nh=x.nh+1∧(x'.held 2=some (hcn (x.held 2))∧∀n,n≠2→x'.held n=x.held n)∧g=gc∧av=j)) 75 #[.pointer (some ⟨k.K,0,none⟩),.int .i64 p,.agg A]:=by
 intro w h0
 have h':=h.keep h0
 have q':=q.keep h0
 have hzz:∀j,x.bs j→j<w0.heap.size:=h.fs.lt
 have hz:=h0.size
 have hgc:gc<w0.heap.size:=World.block_lt_of_cell? w0 _ q.g
 have hFi:k.Fi<w0.heap.size:=h.kt.lt (by rw[h.kt.tFi];decide)
 refine(kopenA_is h' p1 q.p16 hA hA1 hA2 hA3 (by decide) (.inr rfl) hm (P:=fun x'=>FileF x' q0 m∧x'.held=x.held∧x'.nh=x.nh) (fun wx hb=>(openedN_is (h'.keep hb) (q'.keep hb) hr hna hm hA2 hA3 hA4 (may_root hr.k hr.m hr.u hr.g a cap q.hc (.inl rfl)) (may_root hr.k hr.m hr.u hr.g a cap q.hc (.inr rfl))).mono ?_) (fun x' hx'=>?_) hf1 hf2).mono ?_
 ·rintro e w' ⟨rfl,x',hk,hf,e1,e2,hu,hs⟩
  exact⟨rfl,x',hk,⟨hf,e1,e2⟩,hu,hs⟩
 ·obtain⟨pv,e⟩:=hx'.1.n1
  exact⟨by rw[e];exact(by decide:¬(1:Int)=0),by rw[hx'.2.2];exact hh.1,by rw[hx'.2.1];exact hh.2⟩
 ·rintro e w' ⟨j,k0,x2,hj,hk0,⟨hf,e1,e2⟩,hk,rfl,hu,hs⟩
  have hgg:¬(gc=k.Fi∨x.bs gc∨w.heap.size≤gc):=by
   rintro (e|e|e)
   ·exact hg2 e
   ·exact hg1 e
   ·omega
  refine⟨_,rfl,(ansN3' _ _ _).1,(ansN3' _ _ _).2,hu.mono fun i hi e=>?_,OpenTo s p 3 j k0,heldTo x2,gc,0,j,0,hk,fun i e=>.inl e,hs,(hu.cell (Nat.lt_of_lt_of_le hgc hz) hgg).trans q'.g,.inl hgc,rfl,⟨rfl,j,k0,hj,hk0,rfl,?_,?_,?_,rfl,rfl⟩,hu.mono fun i _ e=>?_⟩
  ·rcases e with rfl|e|e
   ·exact hFi
   ·exact hzz i e
   ·omega
  ·exact⟨hf.k,hf.m0,hf.u,hf.g,hf.ps,hf.sz,hf.q0,hf.q1,hf.sec,hf.n1,⟨hf.dk.ma,hf.dk.fo,hf.dk.qu,hf.dk.nd,hf.dk.gk,hf.dk.td⟩,hf.q53,hf.tl,⟨hf.x.nz,hf.x.G,hf.x.free,hf.x.na,hf.x.l0,hf.x.Gq⟩⟩
  ·show x2.nh+1=_
   rw[e2]
  ·refine⟨?_,fun n hn=>?_⟩
   ·show (if (2:Int)=2 then some (hcn (x2.held 2)) else x2.held 2)=_
    rw[if_pos rfl,e1]
   ·show (if n=2 then some (hcn (x2.held 2)) else x2.held n)=_
    rw[if_neg hn,e1]
  ·rcases e with rfl|e|e
   ·left;rw[h.kt.tFi];decide
   ·exact .inr (.inl e)
   ·exact .inr (.inr e)
end
def KOutD (B0:Nat) (k:KC) (fc:FC) (tag0:Nat→Nat) (bs0:Nat→Prop) (T:KSt→FM→Int→Int→Int→List Int→Prop) (w:World) (X:Array Value) (w':World):Prop:=
 ∃s x e a b d l,KF w' k s fc x∧FarT tag0 w.heap.size s.tag∧(∀j,x.bs j→bs0 j∨w.heap.size≤j)∧X=ansV e a b d∧OB w.heap.size w' d l∧(∀j,d.ownBlock=some j→s.tag j=0∧¬x.bs j)∧T s x e a b l∧Upd (fun j=>tag0 j≠0∨bs0 j∨w.heap.size≤j) w w'
theorem koutD_ok {w0:World} {k:KC} {fc:FC} {tag0:Nat→Nat} {bs0:Nat→Prop}(hz:∀j,w0.heap.size≤j→tag0 j=0)(hb:∀j,bs0 j→j<w0.heap.size) (T:KSt→FM→Int→Int→Int→List Int→Prop):OutOk w0 (KOutD w0.heap.size k fc tag0 bs0 T):=by
 refine⟨?_,?_,?_⟩
 ·rintro w w1 w2 b C X h0 h1 ⟨s,x,e,a,r,d,l,hs,hf,hx,hX,ho,hd,hT,hU⟩ hb0 hb1
  have z0:=h0.size
  have z1:=h1.size
  have u:Upd (fun k=>k=b) w2 (w2.setRow b C):=Upd.setRow w2 C rfl
  refine⟨s,x,e,a,r,d,l,hs.upd u (fun j hj q=>?_) (fun j hj q=>?_),fun j hj=>?_,fun j hj=>?_,hX,(ho.upd u (fun g hg q=>?_)).base z1,hd,hT,((Upd.below h1).trans (hU.mono fun i _ e=>?_)).trans' u (fun i hi e=>by omega)⟩
  ·have q:j=b:=q
   rcases hf j hj with e|e
   ·exact e (hz j (by omega))
   ·omega
  ·have q:j=b:=q
   rcases hx j hj with e|e
   ·have:=hb j e;omega
   ·omega
  ·exact(hf j hj).imp_right fun e=>by omega
  ·exact(hx j hj).imp_right fun e=>by omega
  ·have q:g=b:=q
   have:=(ho.lt g hg).1
   omega
  ·exact e.imp_right fun e=>e.imp_right fun e=>by omega
 ·rintro w w1 w2 X h0 h1 ⟨s,x,e,a,r,d,l,hs,hf,hx,hX,ho,hd,hT,hU⟩
  have z1:=h1.size
  exact⟨s,x,e,a,r,d,l,hs,fun j hj=>(hf j hj).imp_right fun e=>by omega,fun j hj=>(hx j hj).imp_right fun e=>by omega,hX,ho.base z1,hd,hT,(Upd.below h1).trans (hU.mono fun i _ e=>e.imp_right fun e=>e.imp_right fun e=>by omega)⟩
 ·rintro w X w2 w3 ⟨s,x,e,a,r,d,l,hs,hf,hx,hX,ho,hd,hT,hU⟩ hb
  exact⟨s,x,e,a,r,d,l,hs.keep hb,hf,hx,hX,ho.keep hb,hd,hT,hU.trans (Upd.below hb)⟩
structure ED (w0 w:World) (k:KC) (s:KSt) (fc:FC) (x:FM) (l:List (Nat×Array Value)):Prop where
 kf:KF w k s fc x
 hb:Below w0.heap.size w0 w
 lo:∀j,s.tag j≠0→w0.heap.size≤j
 lb:∀j,x.bs j→w0.heap.size≤j
 rows:∀p,p∈l→Row w p.1 35 p.2∧s.tag p.1=0∧¬x.bs p.1
section
variable {w0 w w1 w':World} {k:KC} {s:KSt} {fc:FC} {x:FM} {l:List (Nat×Array Value)} {T:KSt→FM→Int→Int→Int→List Int→Prop} {X:Array Value} {p:Nat} {A:Array Value}
theorem ED.keep (h:ED w0 w k s fc x l)(hb:Below w.heap.size w w'):ED w0 w' k s fc x l:=⟨h.kf.keep hb,h.hb.trans (hb.mono h.hb.size),h.lo,h.lb,fun p hp=>⟨(h.rows p hp).1.keep hb,(h.rows p hp).2⟩⟩
theorem ED.asked (h:ED w0 w k s fc x l)(ho:KOutD w.heap.size k fc s.tag x.bs T w X w'):∃s' x' e a b d dl,X=ansV e a b d∧T s' x' e a b dl∧OB w.heap.size w' d dl∧ED w0 (w'.alloc (.cells X 35)) k s' fc x' ((w'.heap.size,X)::l)∧(∀j,d.ownBlock=some j→s'.tag j=0∧¬x'.bs j)∧FarT s.tag w.heap.size s'.tag∧(∀j,x'.bs j→x.bs j∨w.heap.size≤j)∧Upd (fun j=>s.tag j≠0∨x.bs j∨w.heap.size≤j) w w':=by
 obtain⟨s',x',e,a,b,d,dl,hk,hf,hx,rfl,hO,hd,hT,hU⟩:=ho
 have z0:=h.hb.size
 have z2:=hU.size
 have al:=Go.Joins.below_alloc1 w' (.cells (ansV e a b d) 35)
 refine⟨s',x',e,a,b,d,dl,rfl,hT,hO,⟨hk.keep al,(h.hb.trans (hU.toBelow z0 (fun j hj q=>?_))).trans (al.mono (by omega)),fun j hj=>?_,fun j hj=>?_,fun q hq=>?_⟩,hd,hf,hx,hU⟩
 ·rcases q with q|q|q
  ·have:=h.lo j q;omega
  ·have:=h.lb j q;omega
  ·omega
 ·rcases hf j hj with q|q
  ·exact h.lo j q
  ·omega
 ·rcases hx j hj with q|q
  ·exact h.lb j q
  ·omega
 ·rcases List.mem_cons.1 hq with rfl|hq
  ·exact⟨row_new _ _ _,hk.kt.tz _ (Nat.le_refl _),fun e=>by have:=hk.fs.lt _ e;omega⟩
  ·obtain⟨r1,r2,r3⟩:=h.rows q hq
   have hlt:=r1.lt
   refine⟨(r1.upd hU (fun e=>?_)).keep al,?_,fun e=>?_⟩
   ·rcases e with e|e|e
    ·exact e r2
    ·exact r3 e
    ·omega
   ·cases Nat.eq_zero_or_pos (s'.tag q.1) with
    | inl e=>exact e
    | inr e=>
     rcases hf q.1 (by omega) with e2|e2
     ·exact absurd r2 e2
     ·omega
   ·rcases hx q.1 e with e2|e2
    ·exact r3 e2
    ·omega
theorem ED.ask (h:ED w0 w k s fc x l)(haw:Awake s p)(hA:A.size=7)(hs:OutOk w (KOutD w.heap.size k fc s.tag x.bs T)→Spec w (KOutD w.heap.size k fc s.tag x.bs T) 18 #[.pointer (some ⟨k.K,0,none⟩),.int .i64 p,.agg A]) :
  Calls Tryz.prog 7 #[.pointer (some ⟨k.K,0,none⟩),.int .i64 p,.agg A] w fun e2 w'=>∃s' x' e a b d dl,e2=.returned (.agg (ansV e a b d))∧T s' x' e a b dl∧OB w.heap.size w' d dl∧ED w0 (w'.alloc (.cells (ansV e a b d) 35)) k s' fc x' ((w'.heap.size,ansV e a b d)::l)∧(∀j,d.ownBlock=some j→s'.tag j=0∧¬x'.bs j)∧FarT s.tag w.heap.size s'.tag∧(∀j,x'.bs j→x.bs j∨w.heap.size≤j)∧Upd (fun j=>s.tag j≠0∨x.bs j∨w.heap.size≤j) w w':=by
 have ok:=koutD_ok (k:=k) (fc:=fc) (w0:=w) (tag0:=s.tag) (bs0:=x.bs) h.kf.kt.tz h.kf.fs.lt T
 refine(askP_is ok (Below.refl _ _) h.kf.kt haw hA (hs ok)).mono ?_
 rintro e2 w' ⟨X,rfl,hX,hone,hu,ho⟩
 obtain⟨s',x',e,a,b,d,dl,rfl,hT,hO,he,hd,hf,hx,hU⟩:=h.asked ho
 exact⟨s',x',e,a,b,d,dl,rfl,hT,hO,he,hd,hf,hx,hU⟩
theorem koutF_D {B0:Nat} {tag0:Nat→Nat} {bs0:Nat→Prop} {T0:KSt→FM→Nat→Int→Int→Int→Prop}(h:KOutF B0 k fc tag0 bs0 T0 w X w'):KOutD B0 k fc tag0 bs0 (fun s x e a b l=>l=[]∧∃g,T0 s x g e a b) w X w':=by
 obtain⟨s,x,g,e,a,b,hk,hf,hx,hg,hgl,rfl,hT,hU⟩:=h
 exact⟨s,x,e,a,b,_,[],hk,hf,hx,rfl,OB.nil _ _,fun j e=>(by cases e),⟨rfl,g,hT⟩,hU⟩
theorem specF_D {B0:Nat} {tag0:Nat→Nat} {bs0:Nat→Prop} {T0:KSt→FM→Nat→Int→Int→Int→Prop} {f:Nat} {args:Array Value}(h:Spec w (KOutF B0 k fc tag0 bs0 T0) f args):Spec w (KOutD B0 k fc tag0 bs0 (fun s x e a b l=>l=[]∧∃g,T0 s x g e a b)) f args:=fun w1 h1=>(h w1 h1).mono (by
  rintro e w' ⟨X,rfl,hX,hone,hu,ho⟩
  exact⟨X,rfl,hX,hone,hu,koutF_D ho⟩)
end
end Go.Proofs.YtfkepfncgdlgoaaGreatDoor
