/- The walks of package dir: List at one entry, Find, Put. The walks of package fs: there, directory, find, place, free. The walks of package fs: free, enter, Look, Stat, Hold. The walks of package fs: Stat, Hold, enter. What all sectors of the disk have, as all that was done leaves them; the end of a call keeps that. No walk here. -/
import Derived.Test.YtfkepfncgdlgoaaGreatDoorDirH
import Derived.Test.YtfkepfncgdlgoaaGreatDoorDirC
import Derived.Test.YtfkepfncgdlgoaaGreatDoorFmtP
namespace Go.Proofs.YtfkepfncgdlgoaaGreatDoor
open Go.RowKit Go.Maps
set_option linter.unusedVariables false
set_option linter.unusedSimpArgs false
set_option maxRecDepth 100000
set_option maxHeartbeats 1000000
section
attribute [local go_sem ↓] apE_eq
theorem list1_is {w:World} {b o c:Nat}(hv:At (Value.int .u8) 0 w (.slice (some ⟨b,o,none⟩) 16 c) entL):Calls Tryz.prog 244 #[.slice (some ⟨b,o,none⟩) 16 c] w fun e w'=>∃g cap,e=.returned (.tuple #[.slice (some ⟨g,0,none⟩) 1 cap,.int .i64 0])∧w.heap.size≤g∧E1 w' g 0 cap∧Below w.heap.size w w':=by
 obtain⟨z,hz⟩:∃z,z=w.heap.size:=⟨_,rfl⟩
 obtain⟨w4,hw4⟩:∃w4,w4=(((w.alloc (.cells #[.slice (some ⟨b,o,none⟩) 16 c] 22)).alloc (.cells #[.int .i64 1] 3)).alloc (.cells #[.slice none 0 0] 31)).alloc (.cells #[.func (Fn.func 298) #[] #[.pointer (some ⟨z+1,0,none⟩),.pointer (some ⟨z+1+1+1,0,none⟩),.pointer (some ⟨z+1+1,0,none⟩),.pointer (some ⟨z,0,none⟩)]] 141):=⟨_,rfl⟩
 have ra:Row (w.alloc (.cells #[.slice (some ⟨b,o,none⟩) 16 c] 22)) z 22 #[.slice (some ⟨b,o,none⟩) 16 c]:=by rw[hz];exact row_new _ _ _
 have rb:Row ((w.alloc (.cells #[.slice (some ⟨b,o,none⟩) 16 c] 22)).alloc (.cells #[.int .i64 1] 3)) (z+1) 3 #[.int .i64 1]:=by
  have:=row_new (w.alloc (.cells #[.slice (some ⟨b,o,none⟩) 16 c] 22)) 3 #[.int .i64 1]
  simpa [← hz] using this
 have rc:Row (((w.alloc (.cells #[.slice (some ⟨b,o,none⟩) 16 c] 22)).alloc (.cells #[.int .i64 1] 3)).alloc (.cells #[.slice none 0 0] 31)) (z+1+1) 31 #[.slice none 0 0]:=by
  have:=row_new ((w.alloc (.cells #[.slice (some ⟨b,o,none⟩) 16 c] 22)).alloc (.cells #[.int .i64 1] 3)) 31 #[.slice none 0 0]
  simpa [← hz] using this
 have rd:Row w4 (z+1+1+1) 141 #[.func (Fn.func 298) #[] #[.pointer (some ⟨z+1,0,none⟩),.pointer (some ⟨z+1+1+1,0,none⟩),.pointer (some ⟨z+1+1,0,none⟩),.pointer (some ⟨z,0,none⟩)]]:=by
  have:=row_new (((w.alloc (.cells #[.slice (some ⟨b,o,none⟩) 16 c] 22)).alloc (.cells #[.int .i64 1] 3)).alloc (.cells #[.slice none 0 0] 31)) 141 #[.func (Fn.func 298) #[] #[.pointer (some ⟨z+1,0,none⟩),.pointer (some ⟨z+1+1+1,0,none⟩),.pointer (some ⟨z+1+1,0,none⟩),.pointer (some ⟨z,0,none⟩)]]
  rw[hw4]
  simpa [← hz] using this
 have hb4:Below w.heap.size w w4:=by
  rw[hw4]
  exact((((Below.refl _ _).alloc (Nat.le_refl _) _).alloc (by simp <;> omega) _).alloc (by simp <;> omega) _).alloc (by simp <;> omega) _
 have ra4:Row w4 z 22 #[.slice (some ⟨b,o,none⟩) 16 c]:=by rw[hw4];exact((ra.alloc _).alloc _).alloc _
 have rb4:Row w4 (z+1) 3 #[.int .i64 1]:=by rw[hw4];exact(rb.alloc _).alloc _
 have rc4:Row w4 (z+1+1) 31 #[.slice none 0 0]:=by rw[hw4];exact rc.alloc _
 have h4z:w4.heap.size=z+1+1+1+1:=by rw[hw4];simp[← hz]
 have hv4:=hv.keep hb4
 have HWF:=Lib.hid (walkF_is (p2:=z+1+1+1) (rb4.cell 0) (rd.cell 0) rc4 (ra4.cell 0) hv4 ⟨by omega,by omega,by omega⟩)
 have d3:=rd.cell 0
 have HH:=Lib.hid (And.intro ra4 (And.intro rb4 (And.intro hb4 (And.intro h4z hv4))))
 have hcm:(c:Int)≤9223372036854775807:=by
  obtain⟨a',cap',e1,e2,e3,e4⟩:=hv
  injection e1 with e1 e5 e6
  unfold maxLen at e3;omega
 have q1:(16:Int).tmod 16=0:=by decide
 have q2:(16:Int).tdiv 16=1:=by decide
 have hbw:b<w.heap.size:=by
  rcases At.cellB hv with e|⟨b',o',e,hlt,hc⟩
  ·cases e
  ·injection e with e
   injection e with e1 e2 _
   subst e1
   exact hlt
 have HZ:=Lib.hid (And.intro hz (And.intro hw4 hbw))
 clear hv ra rb rc rd ra4 rb4 rc4 hb4 h4z hv4 hz hw4 hbw
 go_enter Tryz.func244,Tryz.ntmps244
 go_upto_region 7 with fail
 rw[← HZ.out.1,← HZ.out.2.1]
 go_upto_region 8 with (go_at_call 298;(with_reducible refine HWF.out.mono ?_);rintro e5 w5 ⟨rfl,g,cap,r5,hg,he5,hu5⟩)
 have c5:=r5.cell 0
 have ra5:=HH.out.1.upd hu5 (by omega)
 have HL:=Lib.hid (lay1_is he5)
 have HE5:=Lib.hid (And.intro hg (And.intro he5 (And.intro r5 (And.intro hu5 ra5))))
 have hvb:At (Value.int .u8) 0 w5 (.slice (some ⟨b,o,none⟩) 16 c) entL:=HH.out.2.2.2.2.upd8 hu5 (fun j e q=>by
    injection e with e
    have q:j=z+1+1:=q
    have h1:=HZ.out.1
    have h2:=HZ.out.2.2
    have e:b=j:=e
    omega)
 have HVB:=Lib.hid hvb
 clear hg he5 r5 hu5 ra5 d3 HWF hvb
 go_upto_region 9 with (go_at_call 299;(with_reducible refine HL.out.mono ?_);rintro e6 w6 ⟨gb,rfl,hgb,hk6,hb6⟩)
 have r6:=HE5.out.2.2.1.keep hb6
 have ra6:=HE5.out.2.2.2.2.keep hb6
 have c6:=r6.cell 0
 have d6:=ra6.cell 0
 have ha6:At (Value.int .u8) 0 w6 (.slice (some ⟨gb,0,none⟩) 16 16) entL:=by
  have:=(ob_of_bk (B:=0) (c:=16) hk6 (Nat.zero_le _) (by decide) rfl).at
  exact this
 have HEQ:=Lib.hid (equalB_is (by decide) ha6 (HVB.out.keep hb6))
 have HE6:=Lib.hid (And.intro (HE5.out.2.1.keep hb6) (And.intro r6 (And.intro hb6 HE5.out.2.2.2.1)))
 have HG:=Lib.hid HE5.out.1
 clear r6 ra6 ha6 hgb hk6 hb6 c5 HL HE5
 go_wp2_with (go_at_call 10;(with_reducible refine HEQ.out.mono ?_);rintro e7 w7 ⟨rfl,hb7⟩;have c7:=(HE6.out.2.1.keep hb7).cell 0;have HB7:=Lib.hid hb7;clear hb7)
 go_ret2
 have hs6:=HE6.out.2.2.1.size
 have hu:=HE6.out.2.2.2.toBelow (B:=w.heap.size) HH.out.2.2.1.size (fun k hk e=>by have h1:=HZ.out.1;have e:k=z+1+1:=e;omega)
 have hb5:=HH.out.2.2.1.trans hu
 have hb6:=hb5.trans (HE6.out.2.2.1.mono hb5.size)
 exact⟨g,cap,rfl,by have:=HG.out;have:=HH.out.2.2.2.1;have:=HZ.out.1;omega,HE6.out.1.keep HB7.out,hb6.trans (HB7.out.mono hb6.size)⟩
theorem find0_is (w:World) (s:ByteArray):Calls Tryz.prog 203 #[.slice none 0 0,.string s] w fun e w'=>e=.returned (.tuple #[.int .i64 0,.int .i64 0,.int .i64 4])∧Below w.heap.size w w':=by
 have HL:=Lib.hid (list0_is w)
 go_enter Tryz.func203,Tryz.ntmps203
 go_wp2_with (go_at_call 244;(with_reducible refine HL.out.mono ?_);rintro e1 w1 ⟨rfl,hb1⟩)
 refine wp_loop_rounds 1 ?_
 rw[rounds_succ]
 go_wp2_with fail
 first|go_ret3|go_ret
 exact⟨rfl,hb1⟩
theorem find1_is {w:World} {b o c:Nat}(hv:At (Value.int .u8) 0 w (.slice (some ⟨b,o,none⟩) 16 c) entL):Calls Tryz.prog 203 #[.slice (some ⟨b,o,none⟩) 16 c,.string ⟨#[102]⟩] w fun e w'=>e=.returned (.tuple #[.int .i64 2,.int .i64 1,.int .i64 0])∧Below w.heap.size w w':=by
 have HL:=Lib.hid (list1_is hv)
 have HV:=Lib.hid hv
 have HC:=Lib.hid (fun w=>cmpS_is w)
 clear hv
 go_enter Tryz.func203,Tryz.ntmps203
 go_wp2_with (go_at_call 244;(with_reducible refine HL.out.mono ?_);rintro e1 w1 ⟨g,cap,rfl,hg,he,hb1⟩)
 have HB1:=Lib.hid hb1
 have HR:=Lib.hid (row_is (HV.out.keep hb1))
 clear hg he hb1 HL
 refine wp_loop_rounds 2 ?_
 rw[rounds_succ]
 go_wp2_with (first|(go_at_call 266;(with_reducible refine HR.out.mono ?_);rintro e2 w2 ⟨rfl,hb2⟩;have HB2:=Lib.hid (HB1.out.trans (hb2.mono HB1.out.size));clear hb2)|(go_at_call 267;(with_reducible refine(HC.out _).mono ?_);rintro e2 w3 ⟨rfl,rfl⟩))
 first|go_ret3|go_ret
 exact⟨rfl,HB2.out.alloc HB2.out.size _⟩
theorem put0_is (w:World):Calls Tryz.prog 268 #[.slice none 0 0,.agg #[.string ⟨#[102]⟩,.int .i64 2]] w fun e w'=>∃gb,e=.returned (.tuple #[.slice (some ⟨gb,0,none⟩) 16 16,.int .i64 0])∧w.heap.size≤gb∧BK w' gb entL∧Below w.heap.size w w':=by
 have HB:=Lib.hid (Go.Joins.below_alloc1 w (.cells #[.string ⟨#[102]⟩,.int .i64 2] 388))
 have HR:=Lib.hid (row_new w 388 #[.string ⟨#[102]⟩,.int .i64 2])
 have HL:=Lib.hid (list0_is (w.alloc (.cells #[.string ⟨#[102]⟩,.int .i64 2] 388)))
 have HN:=Lib.hid (fun w=>name_is w)
 have HC:=Lib.hid (fun w a c f=>con0_is w a c f)
 have HP:=Lib.hid pushE
 go_enter Tryz.func268,Tryz.ntmps268
 go_upto_region 1 with fail
 generalize w.alloc (.cells #[.string ⟨#[102]⟩,.int .i64 2] 388)=w1 at *
 go_upto_region 4 with (go_at_call 244;(with_reducible refine HL.out.mono ?_);rintro e2 w2 ⟨rfl,hb2⟩)
 have r2:=HR.out.keep hb2
 have c0:=r2.cell 0
 have c1:=r2.cell 1
 have HB2:=Lib.hid (HB.out.trans (hb2.mono HB.out.size))
 clear hb2 r2 HL HR HB
 go_upto_region 10 with (first|(go_at_call 201;(with_reducible refine(HN.out _).mono ?_);rintro e1 w3 ⟨rfl,rfl⟩)|(go_at_call 316;(with_reducible refine(HC.out _ _ _ _).mono ?_);rintro e1 w3 ⟨rfl,rfl⟩))
 obtain⟨g,cap,w4,hap,hg,he,hb4⟩:=HP.out w2
 have HL1:=Lib.hid (lay1_is he)
 have HB4:=Lib.hid (HB2.out.trans (hb4.mono HB2.out.size))
 clear hg he hb4
 go_wp2_with (go_at_call 299;(with_reducible refine HL1.out.mono ?_);rintro e5 w5 ⟨gb,rfl,hgb,hk5,hb5⟩)
 go_ret2
 exact⟨gb,rfl,Nat.le_trans HB4.out.size hgb,hk5,HB4.out.trans (hb5.mono HB4.out.size)⟩
end
section
variable {w:World} {c:FC} {x:FM}
theorem FSt.kind (h:FSt w c x) {i:Nat}(hi:i<32):w.cell? ⟨x.N,i*8,none⟩=some (.int .i64 (x.nd i).k):=by
 obtain⟨C,hC⟩:=h.nb
 have:=hC.cell hi (j:=0) (by decide)
 exact this
theorem thereF_is (h:FSt w c x) {i:Nat}(hi:i<32) {n:Int}(hn:n=i+1):Calls Tryz.prog 209 #[.pointer (some ⟨c.F,0,none⟩),.int .i64 n] w fun e w'=>e=.returned (.bool (!decide ((x.nd i).k=0)))∧w=w':=by
 have c4:=h.c4
 have k0:=h.kind hi
 have hcm:(x.cap:Int)≤9223372036854775807:=by have:=h.cp.2;unfold maxLen at this;omega
 have y1:IntKind.i64.wrap (n-1)=i:=by rw[IntWalk.i64_in _ (by omega)];omega
 have i1:(1:Int)≤n:=by omega
 have i2:n≤32:=by omega
 have i3:(i:Int)<32:=by omega
 have i0:(0:Int)≤i:=by omega
 generalize (x.nd i).k=k at *
 clear h hn
 by_cases hk:k=0
 all_goals
  go_enter Tryz.func209,Tryz.ntmps209
  go_wp2_with fail
  go_ret
  exact⟨by simp[hk],rfl⟩
theorem dirF_is (h:FSt w c x) {i:Nat}(hi:i<32) {n:Int}(hn:n=i+1)(hk:(x.nd i).k=2):Calls Tryz.prog 202 #[.pointer (some ⟨c.F,0,none⟩),.int .i64 n] w fun e w'=>e=.returned (.int .i64 0)∧w=w':=by
 have HT:=Lib.hid (thereF_is h hi hn)
 rw[hk] at HT
 have HT:Hid (Calls Tryz.prog 209 #[.pointer (some ⟨c.F,0,none⟩),.int .i64 n] w fun e w'=>e=.returned (.bool true)∧w=w'):=HT
 have c4:=h.c4
 have k0:=h.kind hi
 rw[hk] at k0
 have hcm:(x.cap:Int)≤9223372036854775807:=by have:=h.cp.2;unfold maxLen at this;omega
 have y1:IntKind.i64.wrap (n-1)=i:=by rw[IntWalk.i64_in _ (by omega)];omega
 have i3:(i:Int)<32:=by omega
 have i0:(0:Int)≤i:=by omega
 clear h hn hk
 go_enter Tryz.func202,Tryz.ntmps202
 go_wp2_with (go_at_call 209;(with_reducible refine HT.out.mono ?_);rintro e1 w1 ⟨rfl,rfl⟩)
 go_ret
 exact⟨rfl,rfl⟩
theorem At.form16 {w:World} {v:Value} {l:List Int}(h:At (Value.int .u8) 0 w v l)(hl:l.length=16):∃b o cap,v=.slice (some ⟨b,o,none⟩) 16 cap:=by
 obtain⟨a,cap,rfl,h1,h2,h3⟩:=h
 rcases h3 with h3|⟨b,o,rfl,_⟩
 ·rw[h3] at hl;cases hl
 ·exact⟨b,o,cap,by rw[hl]⟩
theorem find0F_is (h:FSt w c x) {i:Nat}(hi:i<32) {n:Int}(hn:n=i+1)(hk:(x.nd i).k=2)(hp:(x.nd i).ps=[])(hs:(x.nd i).sz=0):Calls Tryz.prog 123 #[.pointer (some ⟨c.F,0,none⟩),.int .i64 n,.string ⟨#[102]⟩] w fun e w'=>e=.returned (.tuple #[.int .i64 0,.int .i64 4])∧Below w.heap.size w w':=by
 have HN:=Lib.hid (name_is w)
 have HD:=Lib.hid (dirF_is h hi hn hk)
 have HB:=Lib.hid (begin_is h)
 have HX:=Lib.hid (And.intro hp (And.intro hs hn))
 clear h hk hp hs hn
 go_enter Tryz.func123,Tryz.ntmps123
 go_wp2_with (first|(go_at_call 201;(with_reducible refine HN.out.mono ?_);rintro e1 w1 ⟨rfl,rfl⟩)|(go_at_call 202;(with_reducible refine HD.out.mono ?_);rintro e1 w1 ⟨rfl,rfl⟩)|(go_at_call 53;(with_reducible refine HB.out.mono ?_);rintro e2 w2 ⟨t,g,cap,db,pb,rfl,hT⟩;have HE:=Lib.hid (entries0_is hT hi HX.out.1 HX.out.2.1 HX.out.2.2);have HB2:=Lib.hid hT.bl;clear hT)|(go_at_call 204;(with_reducible refine HE.out.mono ?_);rintro e3 w3 ⟨rfl,hb3⟩;have HF:=Lib.hid (find0_is w3 ⟨#[102]⟩);have HB3:=Lib.hid (HB2.out.trans (hb3.mono HB2.out.size));clear hb3)|(go_at_call 203;(with_reducible refine HF.out.mono ?_);rintro e4 w4 ⟨rfl,hb4⟩;have HB4:=Lib.hid (HB3.out.trans (hb4.mono HB3.out.size));clear hb4))
 go_ret2
 exact⟨rfl,HB4.out⟩
theorem find1F_is (h:FSt w c x) {i:Nat}(hi:i<32) {n:Int}(hn:n=i+1)(hk:(x.nd i).k=2) {p:Nat}(hp:(x.nd i).ps=[(p:Int)])(hp0:p≠0)(hp1:p<256)(hs:(x.nd i).sz=16)(hf:(fsec x p).take 16=entL):Calls Tryz.prog 123 #[.pointer (some ⟨c.F,0,none⟩),.int .i64 n,.string ⟨#[102]⟩] w fun e w'=>e=.returned (.tuple #[.int .i64 2,.int .i64 0])∧Below w.heap.size w w':=by
 have HN:=Lib.hid (name_is w)
 have HD:=Lib.hid (dirF_is h hi hn hk)
 have HB:=Lib.hid (begin_is h)
 have HX:=Lib.hid (And.intro hp (And.intro hp0 (And.intro hp1 (And.intro hs (And.intro hn hf)))))
 clear h hk hp hs hn hp0 hp1 hf
 go_enter Tryz.func123,Tryz.ntmps123
 go_wp2_with (first|(go_at_call 201;(with_reducible refine HN.out.mono ?_);rintro e1 w1 ⟨rfl,rfl⟩)|(go_at_call 202;(with_reducible refine HD.out.mono ?_);rintro e1 w1 ⟨rfl,rfl⟩)|(go_at_call 53;(with_reducible refine HB.out.mono ?_);rintro e2 w2 ⟨t,g,cap,db,pb,rfl,hT⟩;have HE:=Lib.hid (entries1_is (L:=16) hT hi HX.out.1 HX.out.2.1 HX.out.2.2.1 HX.out.2.2.2.1 (by decide) HX.out.2.2.2.2.1);have HB2:=Lib.hid hT.bl;clear hT)|(go_at_call 204;(with_reducible refine HE.out.mono ?_);rintro e3 w3 ⟨v3,rfl,ha3,hf3,hb3⟩;have ha3:At (Value.int .u8) 0 w3 v3 entL:=(by have e:tsec x (tm0 x g cap db pb) p=fsec x p:=rfl;rw[e,HX.out.2.2.2.2.2] at ha3;exact ha3);obtain⟨b3,o3,c3,rfl⟩:=ha3.form16 rfl;have HF:=Lib.hid (find1_is ha3);have HB3:=Lib.hid (HB2.out.trans (hb3.mono HB2.out.size));clear hb3 ha3 hf3)|(go_at_call 203;(with_reducible refine HF.out.mono ?_);rintro e4 w4 ⟨rfl,hb4⟩;have HB4:=Lib.hid (HB3.out.trans (hb4.mono HB3.out.size));clear hb4))
 go_ret2
 exact⟨rfl,HB4.out⟩
theorem place0F_is (h:FSt w c x) {i:Nat}(hi:i<32) {n:Int}(hn:n=i+1)(hk:(x.nd i).k=2)(hp:(x.nd i).ps=[])(hs:(x.nd i).sz=0)(hl:(x.nd i).l=1):Calls Tryz.prog 205 #[.pointer (some ⟨c.F,0,none⟩),.int .i64 n,.string ⟨#[102]⟩] w fun e w'=>e=.returned (.int .i64 0)∧Below w.heap.size w w':=by
 have HF:=Lib.hid (find0F_is h hi hn hk hp hs)
 have HH:=Lib.hid h
 have HX:=Lib.hid (And.intro hi (And.intro hn (And.intro hk hl)))
 have hcm:(x.cap:Int)≤9223372036854775807:=by have:=h.cp.2;unfold maxLen at this;omega
 have y1:IntKind.i64.wrap (n-1)=i:=by rw[IntWalk.i64_in _ (by omega)];omega
 have i3:(i:Int)<32:=by omega
 have i0:(0:Int)≤i:=by omega
 clear h hk hp hs hn hl
 go_enter Tryz.func205,Tryz.ntmps205
 go_upto_region 2 with (go_at_call 123;(with_reducible refine HF.out.mono ?_);rintro e1 w1 ⟨rfl,hb1⟩)
 have HH1:=Lib.hid (HH.out.keep hb1)
 have HB1:=Lib.hid hb1
 have HT:Hid (Calls Tryz.prog 209 #[.pointer (some ⟨c.F,0,none⟩),.int .i64 n] w1 fun e w'=>e=.returned (.bool true)∧w1=w'):=Lib.hid (by have:=thereF_is HH1.out HX.out.1 HX.out.2.1;rw[HX.out.2.2.1] at this;exact this)
 have c4:=HH1.out.c4
 obtain⟨C,hC⟩:=HH1.out.nb
 have k5:w1.cell? ⟨x.N,i*8+5,none⟩=some (.int .i64 1):=by rw[hC.cell HX.out.1 (j:=5) (by decide),← HX.out.2.2.2];rfl
 clear hb1 hC
 go_wp2_with (go_at_call 209;(with_reducible refine HT.out.mono ?_);rintro e1 w1 ⟨rfl,rfl⟩)
 go_ret
 exact⟨rfl,HB1.out⟩
end
section
variable {w:World} {c:FC} {x:FM}
attribute [local go_sem ↓] ld_ino st_ino2
theorem free1_is (h:FSt w c x)(h0:(x.nd 0).k=2)(h1:(x.nd 1).k=0):Calls Tryz.prog 206 #[.pointer (some ⟨c.F,0,none⟩)] w fun e w'=>e=.returned (.tuple #[.int .i64 2,.int .i64 0])∧Below w.heap.size w w':=by
 have c4:=h.c4
 obtain⟨C,hC⟩:=h.nb
 have hcm:(x.cap:Int)≤9223372036854775807:=by have:=h.cp.2;unfold maxLen at this;omega
 have l0:(ldR 120 (.pointer (some ⟨x.N,0,none⟩))).run Tryz.prog w=.ok (.agg (ndA (x.nd 0))) w:=hC.ld (i:=0) (by decide)
 have hal:=Go.Joins.below_alloc1 w (.cells (ndA (x.nd 0)) 120)
 have l1:(ldR 120 (.pointer (some ⟨x.N,8,none⟩))).run Tryz.prog (w.alloc (.cells (ndA (x.nd 0)) 120))=.ok (.agg (ndA (x.nd 1))) (w.alloc (.cells (ndA (x.nd 0)) 120)):=(hC.keep hal).ld (i:=1) (by decide)
 have s0:=st0_new w (T:=120) (c:=#[.int .i64 0,.int .i64 0,.int .i64 0,.int .i64 0,.int .i64 0,.int .i64 0,.int .i64 0,.slice none 0 0]) (cs:=ndA (x.nd 0)) rfl (by rw[ndA_size];kernel_rfl) (ndA_one _ (ip_one (h.ps 0 (by decide)).1))
 have s1:=st0_new (w.alloc (.cells (ndA (x.nd 0)) 120)) (T:=120) (c:=#[.int .i64 0,.int .i64 0,.int .i64 0,.int .i64 0,.int .i64 0,.int .i64 0,.int .i64 0,.slice none 0 0]) (cs:=ndA (x.nd 1)) rfl (by rw[ndA_size];kernel_rfl) (ndA_one _ (ip_one (h.ps 1 (by decide)).1))
 have q0:(w.alloc (.cells (ndA (x.nd 0)) 120)).cell? ⟨w.heap.size,0,none⟩=some (.int .i64 2):=by rw[(row_new w _ _).cell,← h0];rfl
 have e1:(w.alloc (.cells (ndA (x.nd 0)) 120)).heap.size=w.heap.size+1:=by simp
 have q1:((w.alloc (.cells (ndA (x.nd 0)) 120)).alloc (.cells (ndA (x.nd 1)) 120)).cell? ⟨w.heap.size+1,0,none⟩=some (.int .i64 0):=by
  have:=(row_new (w.alloc (.cells (ndA (x.nd 0)) 120)) 120 (ndA (x.nd 1))).cell 0
  rw[e1] at this
  rw[this,← h1]
  rfl
 rw[e1] at s1
 have c4':=(h.keep hal).c4
 have HB:Hid (Below w.heap.size w ((w.alloc (.cells (ndA (x.nd 0)) 120)).alloc (.cells (ndA (x.nd 1)) 120))):=Lib.hid (hal.alloc hal.size _)
 clear h hC hal h0 h1 e1
 generalize ndA (x.nd 0)=A0 at *
 generalize ndA (x.nd 1)=A1 at *
 go_enter Tryz.func206,Tryz.ntmps206
 go_wp2_with fail
 refine wp_loop_rounds 2 ?_
 rw[rounds_succ]
 go_wp2_with fail
 rw[rounds_succ]
 go_wp2_with fail
 go_ret2
 exact⟨rfl,HB.out⟩
theorem look0_is (h:FSt w c x) {i:Nat}(hi:i<32) {n:Int}(hn:n=i+1)(hk:(x.nd i).k=2)(hp:(x.nd i).ps=[])(hs:(x.nd i).sz=0):Calls Tryz.prog 57 #[.pointer (some ⟨c.F,0,none⟩),.int .i64 n,.string ⟨#[102]⟩] w fun e w'=>e=.returned (.tuple #[.int .i64 0,.int .i64 4])∧Below w.heap.size w w':=by
 have HF:=Lib.hid (find0F_is h hi hn hk hp hs)
 clear h hn hk hp hs
 go_enter Tryz.func57,Tryz.ntmps57
 go_wp2_with (go_at_call 123;(with_reducible refine HF.out.mono ?_);rintro e1 w1 ⟨rfl,hb1⟩)
 go_ret2
 exact⟨rfl,hb1⟩
theorem look1_is (h:FSt w c x) {i:Nat}(hi:i<32) {n:Int}(hn:n=i+1)(hk:(x.nd i).k=2) {p:Nat}(hp:(x.nd i).ps=[(p:Int)])(hp0:p≠0)(hp1:p<256)(hs:(x.nd i).sz=16)(hf:(fsec x p).take 16=entL):Calls Tryz.prog 57 #[.pointer (some ⟨c.F,0,none⟩),.int .i64 n,.string ⟨#[102]⟩] w fun e w'=>e=.returned (.tuple #[.int .i64 2,.int .i64 0])∧Below w.heap.size w w':=by
 have HF:=Lib.hid (find1F_is h hi hn hk hp hp0 hp1 hs hf)
 clear h hn hk hp hs hf hp0 hp1
 go_enter Tryz.func57,Tryz.ntmps57
 go_wp2_with (go_at_call 123;(with_reducible refine HF.out.mono ?_);rintro e1 w1 ⟨rfl,hb1⟩)
 go_ret2
 exact⟨rfl,hb1⟩
def stA (n:Nd):Array Value:=#[.int .i64 n.k,.int .i64 n.m,.int .i64 n.u,.int .i64 n.g,.int .i64 n.sz,.int .i64 n.l]
theorem ld_sta (v:Value):Instr.loadAt 33 v=ldR 33 v:=rfl
theorem st_sta (p v:Value):Instr.storeAt 33 p v=stR 33 p v:=rfl
attribute [local go_sem ↓] st_sta
theorem istat_is (w:World) (n:Nd):Calls Tryz.prog 228 #[.agg (ndA n)] w fun e w'=>e=.returned (.agg (stA n))∧Below w.heap.size w w':=by
 have hr:=row_new w 120 (ndA n)
 have hrS:Row ((w.alloc (.cells (ndA n) 120)).alloc (.cells #[.int .i64 0,.int .i64 0,.int .i64 0,.int .i64 0,.int .i64 0,.int .i64 0] 33)) (w.heap.size+1) 33 #[.int .i64 0,.int .i64 0,.int .i64 0,.int .i64 0,.int .i64 0,.int .i64 0]:=by
  have:=row_new (w.alloc (.cells (ndA n) 120)) 33 #[.int .i64 0,.int .i64 0,.int .i64 0,.int .i64 0,.int .i64 0,.int .i64 0]
  simpa using this
 have HS:Hid (Below w.heap.size w ((w.alloc (.cells (ndA n) 120)).alloc (.cells #[.int .i64 0,.int .i64 0,.int .i64 0,.int .i64 0,.int .i64 0,.int .i64 0] 33))):=Lib.hid (((Below.refl _ _).alloc (Nat.le_refl _) _).alloc (by simp) _)
 have hr2:=hr.alloc (.cells #[.int .i64 0,.int .i64 0,.int .i64 0,.int .i64 0,.int .i64 0,.int .i64 0] 33)
 have c0:((w.alloc (.cells (ndA n) 120)).alloc (.cells #[.int .i64 0,.int .i64 0,.int .i64 0,.int .i64 0,.int .i64 0,.int .i64 0] 33)).cell? ⟨w.heap.size,0,none⟩=some (.int .i64 n.k):=hr2.cell 0
 have c1:((w.alloc (.cells (ndA n) 120)).alloc (.cells #[.int .i64 0,.int .i64 0,.int .i64 0,.int .i64 0,.int .i64 0,.int .i64 0] 33)).cell? ⟨w.heap.size,1,none⟩=some (.int .i64 n.m):=hr2.cell 1
 have c2:((w.alloc (.cells (ndA n) 120)).alloc (.cells #[.int .i64 0,.int .i64 0,.int .i64 0,.int .i64 0,.int .i64 0,.int .i64 0] 33)).cell? ⟨w.heap.size,2,none⟩=some (.int .i64 n.u):=hr2.cell 2
 have c3:((w.alloc (.cells (ndA n) 120)).alloc (.cells #[.int .i64 0,.int .i64 0,.int .i64 0,.int .i64 0,.int .i64 0,.int .i64 0] 33)).cell? ⟨w.heap.size,3,none⟩=some (.int .i64 n.g):=hr2.cell 3
 have c4:((w.alloc (.cells (ndA n) 120)).alloc (.cells #[.int .i64 0,.int .i64 0,.int .i64 0,.int .i64 0,.int .i64 0,.int .i64 0] 33)).cell? ⟨w.heap.size,4,none⟩=some (.int .i64 n.sz):=hr2.cell 4
 have c5:((w.alloc (.cells (ndA n) 120)).alloc (.cells #[.int .i64 0,.int .i64 0,.int .i64 0,.int .i64 0,.int .i64 0,.int .i64 0] 33)).cell? ⟨w.heap.size,5,none⟩=some (.int .i64 n.l):=hr2.cell 5
 have s1:=hrS.st0 (cs:=stA n) rfl (by kernel_rfl) (by simp[stA,Value.oneCell'])
 have l1:=(hrS.setRow (stA n)).ldV Tryz.underlying33 rfl (by kernel_rfl)
 have HU:Hid (Below w.heap.size w (((w.alloc (.cells (ndA n) 120)).alloc (.cells #[.int .i64 0,.int .i64 0,.int .i64 0,.int .i64 0,.int .i64 0,.int .i64 0] 33)).setRow (w.heap.size+1) (stA n))):=Lib.hid (HS.out.trans ((Upd.setRow (S:=fun j=>j=w.heap.size+1) _ (stA n) rfl).toBelow HS.out.size (fun k hk e=>by have e:k=w.heap.size+1:=e;omega)))
 generalize hA:ndA n=A at *
 clear hr hrS hr2 hA
 go_enter Tryz.func228,Tryz.ntmps228
 go_upto_region 1 with fail
 generalize (w.alloc (.cells A 120)).alloc (.cells #[.int .i64 0,.int .i64 0,.int .i64 0,.int .i64 0,.int .i64 0,.int .i64 0] 33)=w2 at *
 unfold stA at s1 l1 HU
 go_wp2_with fail
 exact bodyPost_ret (v:=.agg #[.int .i64 n.k,.int .i64 n.m,.int .i64 n.u,.int .i64 n.g,.int .i64 n.sz,.int .i64 n.l]) (by rw[results_cell1 rfl];simp[asAddr,Result.andThen,l1]) rfl ⟨rfl,HU.out⟩
end
section
variable {w:World} {c:FC} {x:FM}
theorem FSt.hold {w':World}(h:FSt w c x) {n:Nat} {f:Int→Option Nat}(hg:w.grownBy w' (some c.hb))(hm:CMap cH w' c.hb n f):FSt w' c { x with held:=f,nh:=n }:=by
 have hu:Upd (fun j=>j=c.hb) w w':=Upd.grown hg rfl
 obtain⟨m1,m2,m3,m4,m5,m6⟩:=h.n1
 obtain⟨d1,d2,d3,d4⟩:=h.n2
 obtain⟨C,hC⟩:=h.nb
 have hbm:fMut c x c.hb:=.inr (.inr (.inl rfl))
 exact⟨h.row.upd hu m2,h.lone,h.fr,h.lg.upd hu (fun e=>m6 e.symm),⟨C,hC.upd hu (fun e=>h.nm (by rw[e];exact hbm))⟩,h.cp,fun i hi=>⟨(h.ps i hi).1.upd hu (fun j e q=>(h.ps i hi).1.n j e (by rw[q];exact hbm)),(h.ps i hi).2⟩,h.td.upd hu m4,fun p s e=>⟨(h.tb p s e).1.upd hu (fun j q k=>(h.tb p s e).1.n j q (by rw[k];exact hbm)),(h.tb p s e).2⟩,hm,h.dk.upd8 hu (fun e=>d3 (.inl e.symm)) (fun e=>d3 (.inr (.inl e.symm))) (fun e=>d3 (.inr (.inr (.inl e.symm)))) (fun j e q=>d3 (.inr (.inr (.inr (by rw[← q];exact e))))),h.nm,h.n1,h.n2,h.bm,h.bn,fun j e=>Nat.lt_of_lt_of_le (h.lt j e) hu.size,hu.owns h.wo (fun g e q=>d3 (.inr (.inr (.inr (by rw[← q];exact e)))))⟩
def hcn:Option Nat→Nat
 | none=>0
 | some n=>n+1
theorem encH_c (o:Option Nat):encH o=.int .i64 (hcn o):=by cases o <;> simp[encH,hcn]
theorem hold_is (h:FSt w c x) {i:Nat}(hi:i<32) {n:Int}(hn:n=i+1)(hk:¬(x.nd i).k=0)(hh:x.nh<1000)(hc:hcn (x.held n)<1000):Calls Tryz.prog 151 #[.pointer (some ⟨c.F,0,none⟩),.int .i64 n] w fun e w'=>e=.returned (.int .i64 0)∧FSt w' c { x with held:=fun j=>if j=n then some (hcn (x.held n)) else x.held j,nh:=x.nh+1 }∧Upd (fun j=>j=c.hb) w w':=by
 have HT:Hid (Calls Tryz.prog 209 #[.pointer (some ⟨c.F,0,none⟩),.int .i64 n] w fun e w'=>e=.returned (.bool true)∧w=w'):=Lib.hid (by have:=thereF_is h hi hn;rw[decide_eq_false hk] at this;exact this)
 have c6:=h.c6
 have hwf:(Lit.int .i64 n).wf=true:=WalkArith.wf_i64 (by omega)
 have lk:=h.hd.look (T:=135) Tryz.underlying135 (zeroH w) hwf
 obtain⟨w',hput,hm,hg⟩:=h.hd.put (T:=135) Tryz.underlying135 hwf (by unfold maxLen;omega) (hcn (x.held n))
 have HF:=Lib.hid (And.intro (h.hold hg hm) (Upd.grown hg (S:=fun j=>j=c.hb) rfl))
 replace lk:(Instr.lookup 135 (.map (some c.hb)) (.int .i64 n) false).run Tryz.prog w=.ok (.int .i64 (hcn (x.held n))) w:=by rw[← encH_c];exact lk
 replace hput:(Instr.mapUpdate 135 (.map (some c.hb)) (.int .i64 n) (.int .i64 ((hcn (x.held n):Int)+1))).run Tryz.prog w=.ok () w':=hput
 have y1:IntKind.i64.wrap ((hcn (x.held n):Int)+1)=hcn (x.held n)+1:=IntWalk.i64_in _ (by omega)
 generalize hcn (x.held n)=k at *
 clear h hg hm hn hk
 go_enter Tryz.func151,Tryz.ntmps151
 go_wp2_with (go_at_call 209;(with_reducible refine HT.out.mono ?_);rintro e1 w1 ⟨rfl,rfl⟩)
 go_ret
 exact⟨rfl,HF.out⟩
section
attribute [local go_sem ↓] ld_ino st_sta
theorem statF_is (h:FSt w c x) {i:Nat}(hi:i<32) {n:Int}(hn:n=i+1)(hk:¬(x.nd i).k=0):Calls Tryz.prog 158 #[.pointer (some ⟨c.F,0,none⟩),.int .i64 n] w fun e w'=>e=.returned (.tuple #[.agg (stA (x.nd i)),.int .i64 0])∧Below w.heap.size w w':=by
 have hal:=Go.Joins.below_alloc1 w (.cells #[.int .i64 0,.int .i64 0,.int .i64 0,.int .i64 0,.int .i64 0,.int .i64 0] 33)
 have h1:=h.keep hal
 have HT:Hid (Calls Tryz.prog 209 #[.pointer (some ⟨c.F,0,none⟩),.int .i64 n] (w.alloc (.cells #[.int .i64 0,.int .i64 0,.int .i64 0,.int .i64 0,.int .i64 0,.int .i64 0] 33)) fun e w'=>e=.returned (.bool true)∧w.alloc (.cells #[.int .i64 0,.int .i64 0,.int .i64 0,.int .i64 0,.int .i64 0,.int .i64 0] 33)=w'):=Lib.hid (by have:=thereF_is h1 hi hn;rw[decide_eq_false hk] at this;exact this)
 have c4:=h1.c4
 obtain⟨C,hC⟩:=h1.nb
 have l1:=hC.ld hi
 have hcm:(x.cap:Int)≤9223372036854775807:=by have:=h.cp.2;unfold maxLen at this;omega
 have y1:IntKind.i64.wrap (n-1)=i:=by rw[IntWalk.i64_in _ (by omega)];omega
 have i3:(i:Int)<32:=by omega
 have i0:(0:Int)≤i:=by omega
 have HI:=Lib.hid (istat_is (w.alloc (.cells #[.int .i64 0,.int .i64 0,.int .i64 0,.int .i64 0,.int .i64 0,.int .i64 0] 33)) (x.nd i))
 have HR:=Lib.hid (row_new w 33 #[.int .i64 0,.int .i64 0,.int .i64 0,.int .i64 0,.int .i64 0,.int .i64 0])
 have HB:=Lib.hid hal
 have HS:=Lib.hid (fun (w2:World) (r2:Row w2 w.heap.size 33 #[.int .i64 0,.int .i64 0,.int .i64 0,.int .i64 0,.int .i64 0,.int .i64 0])=>And.intro (r2.st0 (cs:=stA (x.nd i)) rfl (by kernel_rfl) (by simp[stA,Value.oneCell'])) ((r2.setRow (stA (x.nd i))).ldV Tryz.underlying33 rfl (by kernel_rfl)))
 clear h h1 hal hC hn hk
 generalize ndA (x.nd i)=A at *
 generalize stA (x.nd i)=S at *
 go_enter Tryz.func158,Tryz.ntmps158
 go_upto_region 1 with fail
 generalize w.alloc (.cells #[.int .i64 0,.int .i64 0,.int .i64 0,.int .i64 0,.int .i64 0,.int .i64 0] 33)=w1 at *
 go_wp2_with (first|(go_at_call 209;(with_reducible refine HT.out.mono ?_);rintro e1 w1 ⟨rfl,rfl⟩)|(go_at_call 228;(with_reducible refine HI.out.mono ?_);rintro e2 w2 ⟨rfl,hb2⟩;obtain⟨s2,l2⟩:=HS.out w2 (HR.out.keep hb2);have HB2:=Lib.hid hb2;clear hb2))
 have hb3:=HB.out.trans (HB2.out.mono HB.out.size)
 exact bodyPost_ret (v:=.tuple #[.agg S,.int .i64 0]) (by rw[results_cell_tmp rfl];simp[asAddr,Result.andThen,l2]) rfl ⟨rfl,hb3.trans ((Upd.setRow (S:=fun j=>j=w.heap.size) w2 S rfl).toBelow hb3.size (fun k hk e=>by have e:k=w.heap.size:=e;omega))⟩
end
end
section
variable {w0 w:World} {c:FC} {x:FM} {t:Nat} {y:TM}
theorem enter0_is (h:TX w0 w c x t y)(hps:(y.nd 0).ps=[])(hsz:(y.nd 0).sz=0) {q:Nat}(hq:Fst y.G q)(hnp:y.np<1000)(hnb:y.nb<1000) :
  Calls Tryz.prog 208 #[.pointer (some ⟨t,0,none⟩),.int .i64 1,.string ⟨#[102]⟩,.int .i64 2] w fun e w'=>e=.returned (.int .i64 0)∧FillT w0 c x t y 0 q (gOn y.G q) entL w'∧(∀j,tMut t y j→j<w.heap.size)∧Upd (tMut t y) w w':=by
 have HE:=Lib.hid (entries0_is h (i:=0) (by decide) hps hsz (n:=1) rfl)
 have HH:=Lib.hid h
 have HX:=Lib.hid (And.intro hps (And.intro hq (And.intro hnp hnb)))
 clear h hps hsz hq hnp hnb
 go_enter Tryz.func208,Tryz.ntmps208
 go_wp2_with (first|(go_at_call 204;(with_reducible refine HE.out.mono ?_);rintro e1 w1 ⟨rfl,hb1⟩;have HP:=Lib.hid (put0_is w1);have HB1:=Lib.hid hb1;clear hb1)|(go_at_call 268;(with_reducible refine HP.out.mono ?_);rintro e2 w2 ⟨gb,rfl,hgb,hk2,hb2⟩;have HB2:=Lib.hid (HB1.out.trans (hb2.mono HB1.out.size));have hat2:=(ob_of_bk (B:=0) (c:=16) hk2 (Nat.zero_le _) (by decide) rfl).at;have HFL:=Lib.hid (fillN_is (HH.out.keep HB2.out) (i:=0) (by decide) HX.out.1 (n:=1) rfl (q:=q) (G':=gOn y.G q) (.inl ⟨rfl,HX.out.2.1,rfl⟩) (v:=.slice (some ⟨gb,0,none⟩) 16 16) (z:=entL) hat2 (by decide) (by decide) (fun j e q=>by injection e with e;have hm:=(HH.out.mlt q).2;have hz:=HB1.out.size;have e:gb=j:=e;omega) HX.out.2.2.1 HX.out.2.2.2);clear hgb hk2 hb2 hat2)|(go_at_call 207;(with_reducible refine HFL.out.mono ?_);rintro e3 w3 ⟨rfl,hF,hU⟩;have HF:=Lib.hid hF;have HU:=Lib.hid ((Upd.below (S:=tMut t y) HB2.out).trans hU);clear hF hU))
 go_ret
 exact⟨rfl,HF.out,fun j hj=>(HH.out.mlt hj).2,HU.out⟩
end
structure DOk (x:FM):Prop where
 ma:fsec x 0=markL
 fo:∀i,i<3→fsec x (1+i)=((pkS x.G 4).drop (64*i)).take 64
 qu:fsec x 4=zeros 64
 nd:∀k,k<16→fsec x (37+k)=ndB (x.nd (2*k))++ndB (x.nd (2*k+1))
 gk:∀k,k<16→x.G k=37+k
 td:∀p s,x.td p=some s→(1≤p∧p≤4)∨p=37∨(53≤p∧p≤58)
theorem DOk.gi {x:FM}(h:DOk x) {y:TM}(hG:∀k,k<16→y.G k=x.G k):∀i j,i<16→j<16→y.G i=y.G j→i=j:=fun i j hi hj e=>by
 rw[hG i hi,hG j hj,h.gk i hi,h.gk j hj] at e
 omega
theorem DOk.ended {x:FM}(h:DOk x) {y:TM} {P:Int→Option SL} {B:Int→List Int} {n lo hi:Nat}(he:EndX x y P B)(hoff:∀j:Int,(∀i,i<16→dirt y i=true→j≠(y.G i:Int))→¬(1≤j∧j≤4)→P j=y.pt j∧B j=y.pby j)
  (hG:∀k,k<16→y.G k=x.G k) (hd:∀i,i<16→dirt y i=true→i=0) (hnd:∀i,2≤i→y.nd i=x.nd i) (h0:dirt y 0=true) (hpt:∀p s,y.pt p=some s→53≤p∧p≤58):DOk (keptM x { y with pt:=P,np:=n,pby:=B } lo hi):=by
 have hgk:∀k,k<16→y.G k=37+k:=fun k hk=>by rw[hG k hk,h.gk k hk]
 have hne:∀j:Int,j≠37→∀i,i<16→dirt y i=true→j≠(y.G i:Int):=fun j hj i hi hdi e=>by
  have:=hd i hi hdi
  subst this
  rw[hgk 0 (by decide)] at e
  exact hj (by rw[e];rfl)
 have hnone:∀j:Int,(j<53∨58<j)→y.pt j=none:=fun j hj=>by
  rcases e:y.pt j with _|s
  ·rfl
  ·have:=hpt j s e;omega
 refine⟨?_,fun i hi=>?_,?_,fun k hk=>?_,hgk,fun p s e=>?_⟩
 ·rw[keptM_sec]
  unfold tsec
  obtain⟨e1,-⟩:=hoff (0:Nat) (hne _ (by decide)) (by decide)
  show (if (P ((0:Nat):Int)).isSome=true then B ((0:Nat):Int) else fsec x 0)=_
  rw[e1,hnone _ (by decide)]
  exact h.ma
 ·rw[keptM_sec]
  exact he.fo i hi
 ·rw[keptM_sec]
  exact he.qu
 ·rw[keptM_sec]
  show tsec x { y with pt:=P,np:=n,pby:=B } (37+k)=ndB (y.nd (2*k))++ndB (y.nd (2*k+1))
  by_cases hk0:k=0
  ·subst hk0
   obtain⟨e1,e2⟩:=he.nd 0 (by decide) h0
   rw[hgk 0 (by decide)] at e1 e2
   unfold tsec
   show (if (P ((37+0:Nat):Int)).isSome=true then B ((37+0:Nat):Int) else fsec x (37+0))=_
   rw[if_pos e1,e2]
  ·obtain⟨e1,-⟩:=hoff ((37+k:Nat):Int) (hne _ (by omega)) (by omega)
   unfold tsec
   show (if (P ((37+k:Nat):Int)).isSome=true then B ((37+k:Nat):Int) else fsec x (37+k))=_
   rw[e1,hnone _ (by omega),hnd _ (by omega),hnd _ (by omega)]
   exact h.nd k hk
 ·have e:(if (P p).isSome=true then P p else x.td p)=some s:=e
  by_cases hp:p=37
  ·exact .inr (.inl hp)
  ·by_cases h14:1≤p∧p≤4
   ·exact .inl h14
   ·obtain⟨e1,-⟩:=hoff p (hne p hp) h14
    rw[e1] at e
    rcases hs:y.pt p with _|s'
    ·rw[hs] at e
     exact h.td p s e
    ·exact .inr (.inr (hpt p s' hs))
end Go.Proofs.YtfkepfncgdlgoaaGreatDoor
