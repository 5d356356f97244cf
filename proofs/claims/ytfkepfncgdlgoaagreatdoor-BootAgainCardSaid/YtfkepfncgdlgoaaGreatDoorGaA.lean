/- What read and write at the file "f" come to, as calls of the kernel. Who is user 0 may read and write a file of his own. A number's last eight bits. No program here. The walks of ringkeep5's Opened, Put, Got, behind what the kernel is asked. ringkeep5's Opened, Put, Got, and a seek, over the kernel's state. Open "f", where it has bytes. Printed by gen_slf.py. The walks of package dir at two entries ("f", 2), ("g", 3): names, the comparison, Right, sorting. -/
import Derived.Test.YtfkepfncgdlgoaaGreatDoorRwE
import Derived.Test.YtfkepfncgdlgoaaGreatDoorRwA
import Derived.Test.YtfkepfncgdlgoaaGreatDoorOpenWalk
import Derived.Test.YtfkepfncgdlgoaaGreatDoorFwB
import Derived.BigQuiet
import Derived.Test.YtfkepfncgdlgoaaGreatDoorDOk
namespace Go.Proofs.YtfkepfncgdlgoaaGreatDoor
open Go.RowKit
open Go.RowKit Go.Maps
set_option linter.unusedVariables false
set_option linter.unusedSimpArgs false
set_option maxRecDepth 100000
set_option maxHeartbeats 1000000
section
variable {w0:World} {k:KC} {s:KSt} {fc:FC} {x:FM} {p:Nat} {A:Array Value}
theorem spec_writeZ (h:KF w0 k s fc x) (p1:1≤p) (p16:p≤16) {q0:Nat} {m:Int}(hf:FileF x q0 m)(hm:0≤m∧m≤511) {j k0:Nat}(hj:j<8)(hd:s.fd (p*8+j)=k0+1)(hF:OpenLaw.thing (s.fs k0)=.agg (thF 0))(hA:A.size=7)(hA0:A[0]?=some (.int .i64 8))(hA1:A[1]?=some (.int .i64 j)) {z:List Int} {ad:Option Addr} {cp:Nat}(hA6:A[6]?=some (.slice ad z.length cp))(hz:At (Value.int .u8) 0 w0 (.slice ad z.length cp) z)(hz2:z.length≤256) :
  OutOk w0 (KOutD w0.heap.size k fc s.tag x.bs (fun s' x' e a b l=>e=0∧a=z.length∧s'=SeekTo s k0 z.length∧FileW x' q0 m z∧x'.held=x.held∧x'.nh=x.nh∧l=[])) →
  Spec w0 (KOutD w0.heap.size k fc s.tag x.bs (fun s' x' e a b l=>e=0∧a=z.length∧s'=SeekTo s k0 z.length∧FileW x' q0 m z∧x'.held=x.held∧x'.nh=x.nh∧l=[])) 18 #[.pointer (some ⟨k.K,0,none⟩),.int .i64 p,.agg A]:=by
 intro ok
 refine doW_is ok (.inr (.inl rfl)) hA hA0 (descW_is ok h p1 p16 hj hd hF hA hA0 hA1 ?_)
 intro w h0
 have hz0:=h0.size
 have hFi:k.Fi<w0.heap.size:=h.kt.lt (by rw[h.kt.tFi];decide)
 have hlt:=h.fs.lt
 refine(kwriteZ_is (h.keep h0) p1 p16 hf hm hj hd hA1 hA6 (hz.keep h0) hz2).mono ?_
 rintro e w' ⟨rfl,x',hk,hfz,hh,hn,hu,hs⟩
 obtain⟨hX,hone⟩:=ansN3' 0 (z.length:Int) 0
 refine⟨_,rfl,hX,hone,hu.mono fun i hi e=>?_,SeekTo s k0 z.length,x',0,z.length,0,.slice none 0 0,[],hk,fun i e=>.inl e,hs,rfl,OB.nil _ _,fun i e=>(by cases e),⟨rfl,rfl,rfl,hfz,hh,hn,rfl⟩,hu.mono fun i _ e=>?_⟩
 ·rcases e with rfl|e|e
  ·exact hFi
  ·exact hlt i e
  ·omega
 ·rcases e with rfl|e|e
  ·left;rw[h.kt.tFi];decide
  ·exact .inr (.inl e)
  ·exact .inr (.inr e)
theorem spec_readZ (h:KF w0 k s fc x) (p1:1≤p) (p16:p≤16) {q0:Nat} {z:List Int}(hf:FileR x q0 z)(hz2:z.length≤256) {j k0:Nat}(hj:j<8)(hd:s.fd (p*8+j)=k0+1) {a n:Nat}(hF:OpenLaw.thing (s.fs k0)=.agg (thF a))(hA:A.size=7)(hA0:A[0]?=some (.int .i64 7))(hA1:A[1]?=some (.int .i64 j))(hA3:A[3]?=some (.int .i64 n))(ha:a≤256)(hn:n≤256) :
  OutOk w0 (KOutD w0.heap.size k fc s.tag x.bs (fun s' x' e c b l=>e=0∧l=(z.drop a).take n∧c=l.length∧s'=SeekTo s k0 ((a+l.length:Nat):Int)∧x'=x)) →
  Spec w0 (KOutD w0.heap.size k fc s.tag x.bs (fun s' x' e c b l=>e=0∧l=(z.drop a).take n∧c=l.length∧s'=SeekTo s k0 ((a+l.length:Nat):Int)∧x'=x)) 18 #[.pointer (some ⟨k.K,0,none⟩),.int .i64 p,.agg A]:=by
 intro ok
 refine doW_is ok (.inl rfl) hA hA0 (descR_is ok h p1 p16 hj hd hF hA hA0 hA1 ?_)
 intro w h0
 have hz0:=h0.size
 have hFi:k.Fi<w0.heap.size:=h.kt.lt (by rw[h.kt.tFi];decide)
 have hlt:=h.fs.lt
 refine(kreadZ_is (h.keep h0) p1 p16 hf hz2 hj hd hA1 hA3 ha hn).mono ?_
 rintro e w' ⟨d,rfl,ho,hk,hu⟩
 obtain⟨pd,cd,rfl⟩:=ho.form
 obtain⟨hX,hone⟩:=ansD3 0 (((z.drop a).take n).length:Int) 0 pd ((z.drop a).take n).length cd
 refine⟨_,rfl,hX,hone,hu.mono fun i hi e=>?_,SeekTo s k0 ((a+((z.drop a).take n).length:Nat):Int),x,0,(((z.drop a).take n).length:Int),0,_,(z.drop a).take n,hk,fun i e=>.inl e,fun i e=>.inl e,rfl,ho,fun i e=>?_,⟨rfl,rfl,rfl,rfl,rfl⟩,hu.mono fun i _ e=>?_⟩
 ·rcases e with rfl|e
  ·exact hFi
  ·omega
 ·have:=(ho.lt i e).1
  exact⟨h.kt.tz i (by omega),fun q=>by have:=hlt i q;omega⟩
 ·rcases e with rfl|e
  ·left;rw[h.kt.tFi];decide
  ·exact .inr (.inr e)
end
theorem wanted3_is (w:World):Calls Tryz.prog 241 #[.int .i64 3] w fun e w'=>e=.returned (.int .i64 6)∧w=w':=by
 have b1:bits .and .i64 3 1=1:=by decide
 have b2:bits .and .i64 3 2=2:=by decide
 have b3:bits .and .i64 3 4=0:=by decide
 have c1:bits .or .i64 4 2=6:=by decide
 have c2:bits .or .i64 6 0=6:=by decide
 go_enter Tryz.func241,Tryz.ntmps241
 go_wp2_with fail
 go_ret
 exact⟨rfl,rfl⟩
theorem may_fileR {n:Nd}(hk:n.k=1)(hm:n.m=420)(hu:n.u=0)(hg:n.g=0) (a:Option Addr) (cap:Nat)(hc:cap≤maxLen):MayIs n 0 127 a cap 3 true:=by
 intro w
 have hb:=fun w=>bitsE_is w n (M:=420) (by rw[hm];rfl) (K:=127) a cap
 rw[hu] at hb
 have h:=may_isG w n (by rw[hm];decide) (by rw[hu];decide) (by rw[hg];decide) (U:=0) (K:=127) (by decide) (.inr rfl) a cap hc hb (W:=3) (z:=6) (by decide) wanted3_is
 have e:(bits .andNot .i64 (6:Int) (bits .or .i64 ((420 / 64:Nat):Int) (if (127:Int)=0 then 0 else if n.k=2 then 7 else 6)) == 0)=true:=by
  rw[hk]
  decide
 rw[e] at h
 exact h
def callO (B:Int) (nm:ByteArray):Array Value:=#[.int .i64 5,.int .i64 3,.int .i64 B,.int .i64 420,.string nm,.string ByteArray.empty,.slice none 0 0]
def callP (fd:Int) (ad:Option Addr) (L cp:Nat):Array Value:=#[.int .i64 8,.int .i64 fd,.int .i64 0,.int .i64 0,.string ByteArray.empty,.string ByteArray.empty,.slice ad L cp]
theorem bdc_O (w:World) (B:Int) (nm:ByteArray):(bdC #[(0,.int .i64 5),(4,.string nm),(1,.int .i64 3),(2,.int .i64 B),(3,.int .i64 420)]).run Tryz.prog w=.ok (.agg (callO B nm)) w:=by kernel_rfl
theorem bdc_P (w:World) (fd:Int) (ad:Option Addr) (L cp:Nat):(bdC #[(0,.int .i64 8),(1,.int .i64 fd),(6,.slice ad L cp)]).run Tryz.prog w=.ok (.agg (callP fd ad L cp)) w:=by kernel_rfl
theorem bdc_G (w:World) (fd n:Int):(bdC #[(0,.int .i64 7),(1,.int .i64 fd),(3,.int .i64 n)]).run Tryz.prog w=.ok (.agg (callA 7 fd 0 n)) w:=by kernel_rfl
theorem ans_newD (w:World) (e a b:Int) (p:Option Addr) (n c:Nat):(stR 35 (.pointer (some ⟨w.heap.size,0,none⟩)) (.agg (ansV e a b (.slice p n c)))).run Tryz.prog (w.alloc (.cells #[.int .i64 0,.int .i64 0,.int .i64 0,.slice none 0 0,.slice none 0 0,.int .i64 0,.int .i64 0,.int .i64 0,.int .i64 0,.int .i64 0,.int .i64 0] 35))=.ok () (w.alloc (.cells (ansV e a b (.slice p n c)) 35)):=st0_new w rfl (by kernel_rfl) (ansV_one _ _ _ rfl)
section
variable {w:World} {K:Nat} {p:Int} {P:World→Nat→Prop}
attribute [local go_sem ↓] ld_ans st_ans bd_call
theorem opened_is {B:Int} {nm:ByteArray}(hs:Calls Tryz.prog 7 #[.pointer (some ⟨K,0,none⟩),.int .i64 p,.agg (callO B nm)] w fun e2 w'=>∃(j:Nat) (b:Int) (pd:Option Addr) (m cd:Nat),e2=.returned (.agg (ansV 0 j b (.slice pd m cd)))∧P (w'.alloc (.cells (ansV 0 j b (.slice pd m cd)) 35)) j) :
  Calls Tryz.prog 5 #[.pointer (some ⟨K,0,none⟩),.int .i64 p,.string nm,.int .i64 B] w fun e w'=>∃j:Nat,e=.returned (.int .i64 j)∧P w' j:=by
 have hbd:=bdc_O
 have HS:=Lib.hid hs
 clear hs
 go_enter Tryz.func5,Tryz.ntmps5
 go_upto_region 2 with (go_at_call 7;refine HS.out.mono ?_;rintro e4 w4 ⟨j,b,pd,m,cd,rfl,hP⟩;have hst:=ans_newD w4 0 j b pd m cd;have HP:=Lib.hid hP;clear hP)
 have r0:=((row_new w4 35 (ansV 0 j b (.slice pd m cd))).cell 0).trans (show (ansV 0 j b (.slice pd m cd))[0]?=some (.int .i64 0) from rfl)
 have r1:=((row_new w4 35 (ansV 0 j b (.slice pd m cd))).cell 1).trans (show (ansV 0 j b (.slice pd m cd))[1]?=some (.int .i64 j) from rfl)
 clear hst
 generalize w4.alloc (.cells (ansV 0 j b (.slice pd m cd)) 35)=w5 at *
 go_wp2_with fail
 go_ret
 exact⟨j,rfl,HP.out⟩
theorem put_is {P:World→Prop} {fd:Int} {ad:Option Addr} {L cp:Nat}(hs:Calls Tryz.prog 7 #[.pointer (some ⟨K,0,none⟩),.int .i64 p,.agg (callP fd ad L cp)] w fun e2 w'=>∃(b:Int) (pd:Option Addr) (m cd:Nat),e2=.returned (.agg (ansV 0 L b (.slice pd m cd)))∧P (w'.alloc (.cells (ansV 0 L b (.slice pd m cd)) 35))) :
  Calls Tryz.prog 6 #[.pointer (some ⟨K,0,none⟩),.int .i64 p,.int .i64 fd,.slice ad L cp] w fun e w'=>e=.returned (.bool true)∧P w':=by
 have hbd:=bdc_P
 have HS:=Lib.hid hs
 clear hs
 go_enter Tryz.func6,Tryz.ntmps6
 go_upto_region 2 with (go_at_call 7;refine HS.out.mono ?_;rintro e4 w4 ⟨b,pd,m,cd,rfl,hP⟩;have hst:=ans_newD w4 0 L b pd m cd;have HP:=Lib.hid hP;clear hP)
 have r0:=((row_new w4 35 (ansV 0 L b (.slice pd m cd))).cell 0).trans (show (ansV 0 L b (.slice pd m cd))[0]?=some (.int .i64 0) from rfl)
 have r1:=((row_new w4 35 (ansV 0 L b (.slice pd m cd))).cell 1).trans (show (ansV 0 L b (.slice pd m cd))[1]?=some (.int .i64 L) from rfl)
 clear hst
 generalize w4.alloc (.cells (ansV 0 L b (.slice pd m cd)) 35)=w5 at *
 go_wp2_with fail
 go_ret
 exact⟨rfl,HP.out⟩
theorem got_is {P:World→Value→Prop} {fd n:Int}(hs:Calls Tryz.prog 7 #[.pointer (some ⟨K,0,none⟩),.int .i64 p,.agg (callA 7 fd 0 n)] w fun e2 w'=>∃(a b:Int) (pd:Option Addr) (m cd:Nat),e2=.returned (.agg (ansV 0 a b (.slice pd m cd)))∧P (w'.alloc (.cells (ansV 0 a b (.slice pd m cd)) 35)) (.slice pd m cd))(hP:∀w w' v,P w v→Below w.heap.size w w'→P w' v) :
  Calls Tryz.prog 9 #[.pointer (some ⟨K,0,none⟩),.int .i64 p,.int .i64 fd,.int .i64 n] w fun e w'=>∃pd m cd,e=.returned (.tuple #[.slice pd m cd,.int .i64 0])∧P w' (.slice pd m cd):=by
 have hbd:=bdc_G
 have HS:=Lib.hid hs
 have HPP:=Lib.hid hP
 clear hs hP
 go_enter Tryz.func9,Tryz.ntmps9
 go_upto_region 2 with (go_at_call 7;refine HS.out.mono ?_;rintro e4 w4 ⟨a,b,pd,m,cd,rfl,hP⟩;have hst:=ans_newD w4 0 a b pd m cd;have HP:=Lib.hid hP;clear hP)
 have r0:=((row_new w4 35 (ansV 0 a b (.slice pd m cd))).cell 0).trans (show (ansV 0 a b (.slice pd m cd))[0]?=some (.int .i64 0) from rfl)
 have r3:=((row_new w4 35 (ansV 0 a b (.slice pd m cd))).cell 3).trans (show (ansV 0 a b (.slice pd m cd))[3]?=some (.slice pd m cd) from rfl)
 clear hst
 generalize w4.alloc (.cells (ansV 0 a b (.slice pd m cd)) 35)=w5 at *
 go_quiet (fail)
 go_wp2_with fail
 go_ret2
 exact⟨pd,m,cd,rfl,HPP.out _ _ _ HP.out (below_drewN (Below.refl _ _) _)⟩
end
section
variable {w0 w:World} {k:KC} {s:KSt} {fc:FC} {x:FM} {l:List (Nat×Array Value)} {a:Option Addr} {cap gc cc:Nat}
theorem openN_ask (h:ED w0 w k s fc x l)(haw:Awake s 1) (q:Who w s 1 0 127 a cap gc cc) {q0:Nat}(hr:Root0 x q0)(hna:x.na≤2)(hh:x.nh<1000∧hcn (x.held 2)<1000)(hf1:∃j,j<8∧s.fd (1*8+j)=0)(hf2:∃k0,k0<32∧(s.fs k0).n=0)(hg1:¬x.bs gc)(hg2:gc≠k.Fi) :
  Calls Tryz.prog 5 #[.pointer (some ⟨k.K,0,none⟩),.int .i64 1,.string ⟨#[102]⟩,.int .i64 1] w fun e w'=>∃j:Nat,e=.returned (.int .i64 j)∧∃k0 x1 rows,ED w0 w' k (OpenTo s 1 3 j k0) fc x1 rows∧j<8∧k0<32∧FileF x1 q0 420∧x1.nh=x.nh+1∧x1.held 2=some (hcn (x.held 2))∧∀n,n≠2→x1.held n=x.held n:=by
 refine opened_is (K:=k.K) (p:=1) (B:=1) (nm:=⟨#[102]⟩) (P:=fun w' j=>∃k0 x1 rows,ED w0 w' k (OpenTo s 1 3 j k0) fc x1 rows∧j<8∧k0<32∧FileF x1 q0 420∧x1.nh=x.nh+1∧x1.held 2=some (hcn (x.held 2))∧∀n,n≠2→x1.held n=x.held n) ?_
 refine(h.ask (p:=1) (A:=callO 1 ⟨#[102]⟩) haw rfl (fun ok=>doD_is ok rfl rfl rfl (descO_is ok rfl rfl rfl (specF_D (spec_openN (A:=callO 1 ⟨#[102]⟩) h.kf q (by decide) hr hna (m:=420) (by decide) rfl rfl rfl rfl rfl hh hf1 hf2 hg1 hg2))))).mono ?_
 rintro e2 w' ⟨s',x',e,a2,b,d,dl,he2,⟨hl,g,he0,j,k0,hj,hk0,hs',hf,hnh,hhd,hg,ha2⟩,hO,he,hd,hft,hbs,hU⟩
 obtain⟨pd,cd,hdv⟩:=hO.form
 subst he0
 subst hs'
 subst ha2
 subst hdv
 exact⟨j,b,pd,dl.length,cd,he2,k0,x',_,he,hj,hk0,hf,hnh,hhd⟩
theorem put_ask (h:ED w0 w k s fc x l)(haw:Awake s 1) {q0:Nat}(hf:FileF x q0 420) {j k0:Nat}(hj:j<8)(hd:s.fd (1*8+j)=k0+1)(hF:OpenLaw.thing (s.fs k0)=.agg (thF 0)) {z:List Int} {ad:Option Addr} {L cp:Nat}(hL:L=z.length)(hz:At (Value.int .u8) 0 w (.slice ad L cp) z)(hz2:z.length≤256) :
  Calls Tryz.prog 6 #[.pointer (some ⟨k.K,0,none⟩),.int .i64 1,.int .i64 j,.slice ad L cp] w fun e w'=>e=.returned (.bool true)∧∃x2 rows,ED w0 w' k (SeekTo s k0 z.length) fc x2 rows∧FileW x2 q0 420 z∧x2.nh=x.nh∧x2.held=x.held:=by
 subst hL
 refine put_is (K:=k.K) (p:=1) (fd:=(j:Int)) (P:=fun w'=>∃x2 rows,ED w0 w' k (SeekTo s k0 z.length) fc x2 rows∧FileW x2 q0 420 z∧x2.nh=x.nh∧x2.held=x.held) ?_
 have hs:=spec_writeZ (A:=callP j ad z.length cp) h.kf (by decide) (by decide) hf (by decide) hj hd hF rfl rfl rfl rfl hz hz2
 refine(h.ask (p:=1) (A:=callP j ad z.length cp) haw rfl hs).mono ?_
 rintro e2 w' ⟨s',x',e,a2,b,d,dl,he2,⟨he0,ha2,hs',hfz,hh,hn,hl⟩,hO,he,hdd,hft,hbs,hU⟩
 obtain⟨pd,cd,hdv⟩:=hO.form
 subst he0
 subst ha2
 subst hs'
 subst hdv
 exact⟨b,pd,dl.length,cd,he2,x',_,he,hfz,hn,hh⟩
theorem got_ask (h:ED w0 w k s fc x l)(haw:Awake s 1) {q0:Nat} {m:Int} {z:List Int}(hf:FileZ x q0 m z)(hz2:z.length≤256) {j k0:Nat}(hj:j<8)(hd:s.fd (1*8+j)=k0+1) {a0 n:Nat}(hF:OpenLaw.thing (s.fs k0)=.agg (thF a0))(ha:a0≤256)(hn:n≤256) :
  Calls Tryz.prog 9 #[.pointer (some ⟨k.K,0,none⟩),.int .i64 1,.int .i64 j,.int .i64 n] w fun e w'=>∃pd m1 cd,e=.returned (.tuple #[.slice pd m1 cd,.int .i64 0])∧OB w.heap.size w' (.slice pd m1 cd) ((z.drop a0).take n)∧∃rows,ED w0 w' k (SeekTo s k0 ((a0+((z.drop a0).take n).length:Nat):Int)) fc x (rows++l)∧∀j,(Value.slice pd m1 cd).ownBlock=some j→s.tag j=0∧¬x.bs j:=by
 refine got_is (K:=k.K) (p:=1) (fd:=(j:Int)) (n:=(n:Int)) (P:=fun w' v=>OB w.heap.size w' v ((z.drop a0).take n)∧∃rows,ED w0 w' k (SeekTo s k0 ((a0+((z.drop a0).take n).length:Nat):Int)) fc x (rows++l)∧∀j,v.ownBlock=some j→s.tag j=0∧¬x.bs j) ?_ (fun w1 w2 v hv hb=>⟨hv.1.keep hb,by obtain⟨-,rows,he,ht⟩:=hv;exact⟨rows,he.keep hb,ht⟩⟩)
 have hs:=spec_readZ (A:=callA 7 j 0 n) h.kf (by decide) (by decide) hf.r hz2 hj hd hF rfl rfl rfl rfl ha hn
 refine(h.ask (p:=1) (A:=callA 7 j 0 n) haw rfl hs).mono ?_
 rintro e2 w' ⟨s',x',e,a2,b2,d,dl,he2,⟨he0,hdl,ha2,hs',hx'⟩,hO,he,hdd,hft,hbs,hU⟩
 obtain⟨pd,cd,hdv⟩:=hO.form
 subst he0
 subst hx'
 subst hdl
 subst hs'
 subst hdv
 exact⟨a2,b2,pd,_,cd,he2,hO.keep (Go.Joins.below_alloc1 _ _),[_],he,hdd⟩
end
section
variable {w0 w:World} {k:KC} {s:KSt} {fc:FC} {x:FM} {p:Nat} {U K:Int} {a:Option Addr} {cap gc cc:Nat} {A:Array Value}
section
attribute [local go_sem ↓] ld_sta st_sta
attribute [local go_sem] stS_new
theorem openedZ_is (h:KF w k s fc x) (q:Who w s p U K a cap gc cc) {q0:Nat} {m:Int} {z:List Int}(hf:FileZ x q0 m z) {A:Array Value} {W:Int} {ok:Bool}(hA1:A[1]?=some (.int .i64 W))(hA2:A[2]?=some (.int .i64 0))(hA4:A[4]?=some (.string ⟨#[102]⟩))
  (hM:∀w,Calls Tryz.prog 167 #[.agg (stA (x.nd 0)),.agg (crA U K a cap),.int .i64 4] w fun e w'=>e=.returned (.tuple #[.bool true,.int .i64 0])∧Below w.heap.size w w')
  (hM2:∀w,Calls Tryz.prog 167 #[.agg (stA (x.nd 1)),.agg (crA U K a cap),.int .i64 W] w fun e w'=>e=.returned (.tuple #[.bool ok,.int .i64 0])∧Below w.heap.size w w') :
  Calls Tryz.prog 150 #[.pointer (some ⟨k.K,0,none⟩),.int .i64 p,.agg A] w fun e w'=>e=.returned (.tuple #[.int .i64 (bif ok then 2 else 0),.int .i64 (bif ok then 0 else 7)])∧Below w.heap.size w w':=by
 have hb1:=Go.Joins.below_alloc1 w (.cells A 38)
 have hr1:=row_new w 38 A
 obtain⟨pv,hn1⟩:=hf.n1
 have hk1:(x.nd 1).k=1:=by rw[hn1]
 have HC:Hid (∀wx,Below (w.alloc (.cells A 38)).heap.size (w.alloc (.cells A 38)) wx→(wx.cell? ⟨w.heap.size,1,none⟩=some (.int .i64 W)∧wx.cell? ⟨w.heap.size,2,none⟩=some (.int .i64 0)∧wx.cell? ⟨w.heap.size,4,none⟩=some (.string ⟨#[102]⟩))):=Lib.hid (fun wx hb=>⟨((hr1.keep hb).cell 1).trans hA1,((hr1.keep hb).cell 2).trans hA2,((hr1.keep hb).cell 4).trans hA4⟩)
 have HW:=Lib.hid (kwalkF_is (h.keep hb1) (q.keep hb1) hf.k hf.ps hf.q0 (by have:=hf.q1;omega) hf.sz hf.sec hk1 hM)
 have HMY:=Lib.hid (fun wx (hb:Below w.heap.size w wx)=>kmay_is (h.keep hb) (q.keep hb) (i:=1) (by decide) (n:=2) rfl (by rw[hk1];decide) hM2)
 have HSA:Hid ((stA (x.nd 1))[0]?=some (.int .i64 1)):=Lib.hid (by show some (Value.int .i64 (x.nd 1).k)=_;rw[hk1])
 obtain⟨-,-,d4⟩:=HC.out _ (Below.refl _ _)
 have HB1:=Lib.hid hb1
 clear h q hf hM hM2 hb1 hr1 hn1 hk1
 generalize x.nd 1=nd at *
 go_enter Tryz.func150,Tryz.ntmps150
 go_upto_region 1 with fail
 generalize w.alloc (.cells A 38)=w1 at *
 go_upto_region 2 with (go_at_call 85;(with_reducible refine HW.out.mono ?_);rintro e2 w2 ⟨g2,c2,rfl,y2,q1,q2,hb2⟩)
 have hal:=Go.Joins.below_alloc1 w2 (.cells (stA nd) 33)
 have hmx:(c2:Int)≤9223372036854775807:=by unfold maxLen at q2;omega
 have hm2:(2:Int)≤(c2:Int):=by omega
 have HB3:=Lib.hid (hb2.trans (hal.mono hb2.size))
 have y3:=(hal.cell (p:=⟨g2,1,none⟩) (World.block_lt_of_cell? w2 _ y2)).trans y2
 have s0:(w2.alloc (.cells (stA nd) 33)).cell? ⟨w2.heap.size,0,none⟩=some (.int .i64 1):=((row_new w2 33 (stA nd)).cell 0).trans HSA.out
 clear hb2 d4 HW hal y2 q1 q2 HSA
 generalize w2.alloc (.cells (stA nd) 33)=w3 at *
 obtain⟨t1,t2,-⟩:=HC.out _ HB3.out
 have HM3:=Lib.hid (HMY.out _ (HB1.out.trans (HB3.out.mono HB1.out.size)))
 clear HMY
 go_upto_region 16 with (go_at_call 91;(with_reducible refine HM3.out.mono ?_);rintro e4 w4 ⟨rfl,hb4⟩)
 have HB4:=Lib.hid (HB3.out.trans (hb4.mono HB3.out.size))
 obtain⟨u1,u2,-⟩:=HC.out _ HB4.out
 have HB14:=Lib.hid (HB1.out.trans (HB4.out.mono HB1.out.size))
 clear hb4 HM3 t1 t2 y3 s0
 cases ok
 all_goals
  dsimp only[cond_true,cond_false] at *
  go_wp2_with fail
  go_ret2
  exact⟨rfl,HB14.out⟩
end
theorem spec_openZ (h:KF w0 k s fc x) (q:Who w0 s p U K a cap gc cc) (p1:1≤p) {q0:Nat} {m W:Int} {z:List Int}(hf:FileZ x q0 m z) {C:Int}(hC:0≤C∧C≤511)(hA:A.size=7)(hA1:A[1]?=some (.int .i64 W))(hA2:A[2]?=some (.int .i64 0))(hA3:A[3]?=some (.int .i64 C))(hA4:A[4]?=some (.string ⟨#[102]⟩))(hW:1≤W∧W≤3)
  (hM:MayIs (x.nd 0) U K a cap 4 true) (hM2:MayIs (x.nd 1) U K a cap W true)
  (hh:x.nh<1000∧hcn (x.held 2)<1000) (hf1:∃j,j<8∧s.fd (p*8+j)=0) (hf2:∃k0,k0<32∧(s.fs k0).n=0) (hg1:¬x.bs gc) (hg2:gc≠k.Fi) :
  Spec w0 (KOutF w0.heap.size k fc s.tag x.bs (fun s' x' g e av _=>e=0∧∃j k0:Nat,j<8∧k0<32∧s'=OpenTo s p W j k0∧x'=heldTo x∧g=gc∧av=j)) 75 #[.pointer (some ⟨k.K,0,none⟩),.int .i64 p,.agg A]:=by
 intro w h0
 have h':=h.keep h0
 have q':=q.keep h0
 have hzz:∀j,x.bs j→j<w0.heap.size:=h.fs.lt
 have hz:=h0.size
 have hgc:gc<w0.heap.size:=World.block_lt_of_cell? w0 _ q.g
 have hFi:k.Fi<w0.heap.size:=h.kt.lt (by rw[h.kt.tFi];decide)
 refine(kopenA_is h' p1 q.p16 hA hA1 hA2 hA3 hW (.inl rfl) hC (P:=fun x'=>x'=x) (fun wx hb=>(openedZ_is (h'.keep hb) (q'.keep hb) hf hA1 hA2 hA4 hM hM2).mono ?_) (fun x' hx'=>?_) hf1 hf2).mono ?_
 ·rintro e w' ⟨rfl,hbw⟩
  exact⟨rfl,x,(h'.keep hb).keep hbw,rfl,Upd.below hbw,fun j e=>.inl e⟩
 ·subst hx'
  obtain⟨pv,e⟩:=hf.n1
  exact⟨by rw[e];exact(by decide:¬(1:Int)=0),hh.1,hh.2⟩
 ·rintro e w' ⟨j,k0,x2,hj,hk0,rfl,hk,rfl,hu,hs⟩
  have hgg:¬(gc=k.Fi∨x2.bs gc∨w.heap.size≤gc):=by
   rintro (e|e|e)
   ·exact hg2 e
   ·exact hg1 e
   ·omega
  refine⟨_,rfl,(ansN3' _ _ _).1,(ansN3' _ _ _).2,hu.mono fun i hi e=>?_,OpenTo s p W j k0,heldTo x2,gc,0,j,0,hk,fun i e=>.inl e,hs,(hu.cell (Nat.lt_of_lt_of_le hgc hz) hgg).trans q'.g,.inl hgc,rfl,⟨rfl,j,k0,hj,hk0,rfl,rfl,rfl,rfl⟩,hu.mono fun i _ e=>?_⟩
  ·rcases e with rfl|e|e
   ·exact hFi
   ·exact hzz i e
   ·omega
  ·rcases e with rfl|e|e
   ·left;rw[h.kt.tFi];decide
   ·exact .inr (.inl e)
   ·exact .inr (.inr e)
end
theorem nameG_is (w:World):Calls Tryz.prog 201 #[.string ⟨#[103]⟩] w fun e w'=>e=.returned (.bool true)∧w=w':=by
 have H0:=Lib.hid (ixb_is ⟨#[103]⟩ 0 w)
 have H1:=Lib.hid (ixb_is ⟨#[103]⟩ 47 w)
 have e0:Lib.indexByte (⟨#[103]⟩:ByteArray).data.toList (0:Int).toNat.toUInt8 = -1:=by decide
 have e1:Lib.indexByte (⟨#[103]⟩:ByteArray).data.toList (47:Int).toNat.toUInt8 = -1:=by decide
 rw[e0] at H0
 rw[e1] at H1
 go_enter Tryz.func201,Tryz.ntmps201
 go_wp2_with (first|(go_at_call 265;(with_reducible refine H0.out.mono ?_);rintro e1 w1 ⟨rfl,rfl⟩;clear H0)|(go_at_call 265;(with_reducible refine H1.out.mono ?_);rintro e1 w1 ⟨rfl,rfl⟩;clear H1))
 go_ret
 exact⟨rfl,rfl⟩
theorem nanG_is (w:World):Calls Tryz.prog 315 #[.string ⟨#[103]⟩] w fun e w'=>e=.returned (.bool false)∧w=w':=by
 go_enter Tryz.func315,Tryz.ntmps315
 go_wp2
 go_ret
 exact⟨rfl,rfl⟩
theorem cmpG_is (w:World):Calls Tryz.prog 267 #[.string ⟨#[103]⟩,.string ⟨#[102]⟩] w fun e w'=>e=.returned (.int .i64 1)∧w=w':=by
 have H:=Lib.hid (nanS_is w)
 have H2:=Lib.hid (nanG_is w)
 have b0:Op.bytesLess [103] [102]=false:=by decide
 have b1:Op.bytesLess [102] [103]=true:=by decide
 have hg:(binOp .gtr 9 (.string ⟨#[103]⟩) (.string ⟨#[102]⟩)).run Tryz.prog w=.ok (.bool true) w:=by kernel_rfl
 go_enter Tryz.func267,Tryz.ntmps267
 go_wp2_with (first|(go_at_call 315;(with_reducible refine H.out.mono ?_);rintro e1 w1 ⟨rfl,rfl⟩)|(go_at_call 315;(with_reducible refine H2.out.mono ?_);rintro e1 w1 ⟨rfl,rfl⟩))
 go_ret
 exact⟨rfl,rfl⟩
structure E2 (w:World) (g cap:Nat):Prop where
 c0:w.cell? ⟨g,0,none⟩=some (.string ⟨#[102]⟩)
 c1:w.cell? ⟨g,1,none⟩=some (.int .i64 2)
 c2:w.cell? ⟨g,2,none⟩=some (.string ⟨#[103]⟩)
 c3:w.cell? ⟨g,3,none⟩=some (.int .i64 3)
 l1:2≤cap
 l2:cap≤maxLen
theorem E2.lt {w:World} {g cap:Nat}(h:E2 w g cap):g<w.heap.size:=World.block_lt_of_cell? w _ h.c0
theorem E2.upd {S:Nat→Prop} {w w':World} {g cap:Nat}(h:E2 w g cap)(hu:Upd S w w')(hn:¬S g):E2 w' g cap:=⟨(hu.cell h.lt hn).trans h.c0,(hu.cell h.lt hn).trans h.c1,(hu.cell h.lt hn).trans h.c2,(hu.cell h.lt hn).trans h.c3,h.l1,h.l2⟩
theorem E2.keep {w w':World} {g cap:Nat}(h:E2 w g cap)(hb:Below w.heap.size w w'):E2 w' g cap:=h.upd (S:=fun _=>False) (Upd.below hb) (fun e=>e)
theorem rightF_is {w:World} {p:Nat}(h:w.cell? ⟨p,0,none⟩=some (.string ⟨#[103]⟩)):Calls Tryz.prog 351 #[.agg #[.string ⟨#[102]⟩,.int .i64 2],.pointer (some ⟨p,0,none⟩)] w fun e w'=>e=.returned (.bool false)∧Below w.heap.size w w':=by
 have hlt:=World.block_lt_of_cell? w _ h
 have HB:=Lib.hid (Go.Joins.below_alloc1 w (.cells #[.string ⟨#[102]⟩,.int .i64 2] 388))
 go_enter Tryz.func351,Tryz.ntmps351
 go_wp2_with fail
 go_ret
 exact⟨rfl,HB.out⟩
theorem putF_is {w:World} {p:Nat}(h:w.cell? ⟨p,0,none⟩=some (.string ⟨#[103]⟩)):Calls Tryz.prog 317 #[.agg #[.string ⟨#[102]⟩,.int .i64 2],.pointer (some ⟨p,0,none⟩)] w fun e w'=>e=.returned (.bool false)∧Below w.heap.size w w':=by
 have hlt:=World.block_lt_of_cell? w _ h
 have HB:=Lib.hid (Go.Joins.below_alloc1 w (.cells #[.string ⟨#[102]⟩,.int .i64 2] 388))
 go_enter Tryz.func317,Tryz.ntmps317
 go_wp2_with fail
 go_ret
 exact⟨rfl,HB.out⟩
theorem idxR_is {w:World} {g cap p:Nat} (c0:w.cell? ⟨g,0,none⟩=some (.string ⟨#[102]⟩)) (c1:w.cell? ⟨g,1,none⟩=some (.int .i64 2))(hcm:(cap:Int)≤9223372036854775807)(h1:1≤cap)(h:w.cell? ⟨p,0,none⟩=some (.string ⟨#[103]⟩)):Calls Tryz.prog 328 #[.slice (some ⟨g,0,none⟩) 1 cap,.func (Fn.func 351) #[] #[.pointer (some ⟨p,0,none⟩)]] w fun e w'=>e=.returned (.int .i64 (-1))∧Below w.heap.size w w':=by
 have HO:=Lib.hid (rightF_is h)
 clear h
 go_enter Tryz.func328,Tryz.ntmps328
 go_wp2_with fail
 refine wp_loop_rounds 2 ?_
 rw[rounds_succ]
 go_wp2_with (go_at_call 351;refine HO.out.mono ?_;rintro e1 w1 ⟨rfl,hb1⟩;have HB1:=Lib.hid hb1;clear hb1)
 rw[rounds_succ]
 go_wp2_with fail
 go_ret
 exact⟨rfl,HB1.out⟩
theorem idxP_is {w:World} {g cap p:Nat} (c0:w.cell? ⟨g,0,none⟩=some (.string ⟨#[102]⟩)) (c1:w.cell? ⟨g,1,none⟩=some (.int .i64 2))(hcm:(cap:Int)≤9223372036854775807)(h1:1≤cap)(h:w.cell? ⟨p,0,none⟩=some (.string ⟨#[103]⟩)):Calls Tryz.prog 328 #[.slice (some ⟨g,0,none⟩) 1 cap,.func (Fn.func 317) #[] #[.pointer (some ⟨p,0,none⟩)]] w fun e w'=>e=.returned (.int .i64 (-1))∧Below w.heap.size w w':=by
 have HO:=Lib.hid (putF_is h)
 clear h
 go_enter Tryz.func328,Tryz.ntmps328
 go_wp2_with fail
 refine wp_loop_rounds 2 ?_
 rw[rounds_succ]
 go_wp2_with (go_at_call 317;refine HO.out.mono ?_;rintro e1 w1 ⟨rfl,hb1⟩;have HB1:=Lib.hid hb1;clear hb1)
 rw[rounds_succ]
 go_wp2_with fail
 go_ret
 exact⟨rfl,HB1.out⟩
theorem conX_is {w:World} {v f:Value} (H:Calls Tryz.prog 328 #[v,f] w fun e w'=>e=.returned (.int .i64 (-1))∧Below w.heap.size w w'):Calls Tryz.prog 316 #[v,f] w fun e w'=>e=.returned (.bool false)∧Below w.heap.size w w':=by
 have H:=Lib.hid H
 go_enter Tryz.func316,Tryz.ntmps316
 go_wp2_with (go_at_call 328;refine H.out.mono ?_;rintro e1 w1 ⟨rfl,hb1⟩)
 go_ret
 exact⟨rfl,hb1⟩
theorem right2_is {w:World} {g cap:Nat}(h:E2 w g cap):Calls Tryz.prog 332 #[.slice (some ⟨g,0,none⟩) 2 cap] w fun e w'=>e=.returned (.int .i64 0)∧Below w.heap.size w w':=by
 have c0:=h.c0
 have c1:=h.c1
 have c2:=h.c2
 have c3:=h.c3
 have hlt:=h.lt
 have h2:=h.l1
 have hcm:(cap:Int)≤9223372036854775807:=by have:=h.l2;unfold maxLen at this;omega
 have HN:=Lib.hid (fun w=>name_is w)
 have HNG:=Lib.hid (fun w=>nameG_is w)
 have HC:=Lib.hid (fun w a c f=>con0_is w a c f)
 have HB:=Lib.hid (((Below.refl w.heap.size w).alloc (Nat.le_refl _) (.cells #[.string ⟨#[102]⟩,.int .i64 2] 388)).alloc (by simp) (.cells #[.string ⟨#[103]⟩,.int .i64 3] 388))
 have HX:=Lib.hid (show Calls Tryz.prog 316 #[.slice (some ⟨g,0,none⟩) 1 cap,.func (Fn.func 351) #[] #[.pointer (some ⟨w.heap.size+1,0,none⟩)]] ((w.alloc (.cells #[.string ⟨#[102]⟩,.int .i64 2] 388)).alloc (.cells #[.string ⟨#[103]⟩,.int .i64 3] 388)) fun e w'=>e=.returned (.bool false)∧Below ((w.alloc (.cells #[.string ⟨#[102]⟩,.int .i64 2] 388)).alloc (.cells #[.string ⟨#[103]⟩,.int .i64 3] 388)).heap.size ((w.alloc (.cells #[.string ⟨#[102]⟩,.int .i64 2] 388)).alloc (.cells #[.string ⟨#[103]⟩,.int .i64 3] 388)) w' from
    conX_is (idxR_is ((HB.out.cell (p:=⟨g,0,none⟩) hlt).trans c0) ((HB.out.cell (p:=⟨g,1,none⟩) hlt).trans c1) hcm (by omega) (by simp[go_sem])))
 clear h
 go_enter Tryz.func332,Tryz.ntmps332
 go_wp2_with fail
 refine wp_loop_rounds 3 ?_
 rw[rounds_succ]
 go_wp2_with (first|(go_at_call 201;(with_reducible refine(HN.out _).mono ?_);rintro e1 w1 ⟨rfl,rfl⟩)|(go_at_call 316;(with_reducible refine(HC.out _ _ _ _).mono ?_);rintro e1 w1 ⟨rfl,rfl⟩))
 rw[rounds_succ]
 go_wp2_with (first|(go_at_call 201;(with_reducible refine(HNG.out _).mono ?_);rintro e1 w1 ⟨rfl,rfl⟩)|(go_at_call 316;(first|(with_reducible refine HX.out.mono ?_)|(simp only[size_alloc1];(with_reducible refine HX.out.mono ?_)));rintro e1 w1 ⟨rfl,hb1⟩))
 rw[rounds_succ]
 go_wp2_with fail
 go_ret
 exact⟨rfl,HB.out.trans (hb1.mono HB.out.size)⟩
end Go.Proofs.YtfkepfncgdlgoaaGreatDoor
