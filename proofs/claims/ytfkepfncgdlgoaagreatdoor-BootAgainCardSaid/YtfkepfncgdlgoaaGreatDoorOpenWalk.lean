/- The walks of spread's enter, Add at any run. The walks of spread's New, Add at any run. Bits of numbers of 64 bits that are not negative. No program here. A table of processes: in plain numbers. No program here. Arguments that are slices of arrays of ints, opened to cells. No program here. The walks of package proc: New, number, living, State, Parent. The walks of package open: owner, free, find, New, Get, Seek. -/
import Derived.Test.YtfkepfncgdlgoaaGreatDoorSprE
import Derived.Deep.RegionHeld3
import Derived.Laws.BitsLemmas
import Derived.Laws.Bits64
import Derived.Test.YtfkepfncgdlgoaaGreatDoorDisk2
import Derived.Test.YtfkepfncgdlgoaaGreatDoorProg
import Derived.WalkSmall
import Derived.BigQuiet
import Derived.BigRegion
import Derived.Laws.ResultCell
set_option linter.unusedVariables false
set_option linter.unusedSimpArgs false
set_option maxRecDepth 100000
set_option maxHeartbeats 1000000
namespace Go.Proofs.YtfkepfncgdlgoaaGreatDoor
open Go.RowKit
def tX (t v pin:Int):Array Value:=#[.int .i64 t,.int .i64 1,.int .i64 10,.int .i64 0,.int .i64 0,.int .i64 0,.int .i64 0,.int .i64 0,.int .i64 0,.int .i64 v,.int .i64 0,.int .i64 pin,.bool true,.bool false,.int .i64 0]
theorem tX_in (t v pin:Int):TkIn (tX t v pin) 0 pin ⟨t,v,true,0⟩:=⟨rfl,rfl,rfl,rfl,rfl,rfl,rfl,rfl,rfl,rfl,⟨0,rfl⟩,rfl,rfl,rfl,rfl⟩
theorem bsT_any (w:World) (t v pin:Int):(bsT #[(0,.agg (tX t v pin))]).run Tryz.prog w=.ok (.slice (some ⟨w.heap.size,0,none⟩) 1 1) (w.alloc (.cells (tX t v pin) 186)):=by kernel_rfl
def ixT (x i:Value):Sem Value:=Instr.indexAt 173 x i
theorem ix_task (x i:Value):Instr.indexAt 173 x i=ixT x i:=rfl
theorem ixT_run (w:World) (T c n:Nat):(ixT (.slice (some ⟨T,0,none⟩) (n+1) c) (.int .i64 n)).run Tryz.prog w=.ok (.pointer (some ⟨T,n*15,none⟩)) w:=by
 have h0:(0:Int)≤n:=by omega
 have h1:(n:Int)<(n:Int)+1:=by omega
 simp[ixT,Instr.indexAt,go_sem,run_underlying Tryz.underlying173,h0,h1]
def enterL (l:List Tk) (t:Int) (m:Nat):List Tk:=fillG (l++[⟨t,(lowG l l.length).getD 0,true,-1⟩]) m
section
variable {w w':World} {R cap:Nat} {ad:Option Addr} {cpus ticks pin:Int} {l:List Tk} {T i:Nat} {C X:Array Value} {x:Tk}
attribute [local go_sem ↓] ld_task bs_task ix_task
theorem enterG_is {m:Nat}(h:RunG w R ad cap m ticks pin l) (t:Int)(hm:m≤8)(hl:l.length<1000)(hpin:wrap64 (wrap64 (2 ^ m)-1)=pin)(hp:∀c,c<m→pinOk pin c) :
  Calls Tryz.prog 65 #[.pointer (some ⟨R,0,none⟩),.agg #[.int .i64 t,.int .i64 1,.int .i64 10,.int .i64 0,.int .i64 0,.int .i64 0,.int .i64 0,.int .i64 0,.int .i64 0,.int .i64 0,.int .i64 0,.int .i64 0,.bool false,.bool false,.int .i64 0]] w fun e w'=>e=.returned (.tuple #[])∧(∃T c,RunG w' R (some ⟨T,0,none⟩) c m ticks pin (enterL l t m)∧(ad=some ⟨T,0,none⟩∨w.heap.size≤T))∧Upd (rS R ad) w w':=by
 have c0:=h.c0
 have HH:=Lib.hid h
 have hne:¬R=w.heap.size:=by have:=h.lt;omega
 have hm0:(0:Int)≤m:=by omega
 have hm1:(m:Int)≤8:=by omega
 have d0:∀C:Array Value,(w.alloc (.cells C 186)).cell? ⟨R,0,none⟩=some (.int .i64 m):=fun C=>(h.keep (Go.Joins.below_alloc1 w _)).c0
 have HP:=Lib.hid (And.intro hp hl)
 clear h hp hl
 go_enter Tryz.func65,Tryz.ntmps65
 go_upto_region 2 with fail
 have HR1:Hid (Row (w.alloc (.cells (tX t 0 pin) 186)) w.heap.size 186 (tX t 0 pin)):=Lib.hid (row_new w _ _)
 have HB1:=Lib.hid (Go.Joins.below_alloc1 w (.cells (tX t 0 pin) 186))
 have HQ1:=Lib.hid (HH.out.keep HB1.out)
 (try rw[hpin])
 change Code.wp _ _ _ _ (w.alloc (.cells (tX t 0 pin) 186))
 generalize hw1:w.alloc (.cells (tX t 0 pin) 186)=w1 at *
 clear d0 c0 hw1
 have HLO:=Lib.hid (lowG_is HQ1.out)
 obtain⟨o,ho⟩:∃o,o=lowG l l.length:=⟨_,rfl⟩
 have HLE:Hid (enterL l t m=fillG (l++[⟨t,o.getD 0,true,-1⟩]) m):=Lib.hid (by rw[ho];rfl)
 rw[← ho] at HLO
 clear ho
 go_upto_region 3 with (go_at_call 137;refine HLO.out.mono ?_;rintro e2 w2 ⟨rfl,hb2⟩)
 have HR2:=Lib.hid (HR1.out.keep hb2)
 have HQ2:=Lib.hid (HQ1.out.keep hb2)
 have HB2:=Lib.hid (HB1.out.trans (hb2.mono HB1.out.size))
 have HLT:=Lib.hid HH.out.lt
 clear hb2 HLO HR1 HB1 HQ1
 have x1:=HR2.out.cell 1
 have x9:=HR2.out.cell 9
 have f9:=HR2.out.fz 9
 rw[show (tX t 0 pin)[1]?=some (.int .i64 1) from rfl] at x1
 rw[show (tX t 0 pin)[9]?=some (.int .i64 0) from rfl] at x9
 cases o with
 | none=>
  rw[show lowB none=.bool false from rfl,show lowN none=.int .i64 0 from rfl]
  go_upto_region 5 with fail
  have HR3:=HR2
  have HQ3:=HQ2
  have HB3:=HB2
  generalize w2=w3 at *
  clear x1 x9 f9 HR2 HQ2 HB2
  obtain⟨n,hn⟩:∃n,n=l.length:=⟨_,rfl⟩
  have hal:=Go.Joins.below_alloc1 w3 (.cells (tX t 0 pin) 186)
  obtain⟨T,c,w4,hap,hG4,⟨u3,e3⟩,f3,hT,hU4⟩:=app_any HQ3.out.drew (tX_in t 0 pin) rfl HP.out.2
  have hap:(Builtin.append_ #[173,173] 173 #[.slice ad l.length cap,.slice (some ⟨w3.heap.size,0,none⟩) 1 1]).run Tryz.prog ((w3.alloc (.cells (tX t 0 pin) 186)).drew)=.ok (.slice (some ⟨T,0,none⟩) (l.length+1) c) w4:=hap
  have c3:=HQ3.out.c3
  have d3:=(HQ3.out.keep hal).c3
  have l3:=HR3.out.ld0 (d:=_) Tryz.underlying186 rfl (by kernel_rfl)
  have l3d:=HR3.out.drew.ld0 (d:=_) Tryz.underlying186 rfl (by kernel_rfl)
  have l4:=(HR3.out.keep hal).ld0 (d:=_) Tryz.underlying186 rfl (by kernel_rfl)
  have l4d:=(HR3.out.keep hal).drew.ld0 (d:=_) Tryz.underlying186 rfl (by kernel_rfl)
  have hbs:=fun w=>bsT_any w t 0 pin
  have HG4:=Lib.hid hG4
  have HT3:Hid (ad=some ⟨T,0,none⟩∨w.heap.size≤T):=Lib.hid (by rcases hT with q|q;exact .inl q;exact .inr (Nat.le_trans HB3.out.size q))
  have HU5:=Lib.hid (((Upd.below HB3.out).trans ((Upd.drew w3).trans hU4)).trans (Upd.set w4 (i:=3) (.slice (some ⟨T,0,none⟩) (l.length+1) c) (S:=rS R ad) (b:=R) (.inl rfl)))
  have HX:Hid ((l++[(⟨t,0,true,0⟩:Tk)])[l.length]?=some ⟨t,0,true,0⟩):=Lib.hid (by simp)
  have HLL:Hid ((l++[(⟨t,0,true,0⟩:Tk)]).length=l.length+1):=Lib.hid (by simp)
  have HLS:Hid ((l++[(⟨t,0,true,0⟩:Tk)]).set l.length ⟨t,0,true,-1⟩=l++[⟨t,0,true,-1⟩]):=Lib.hid (by simp)
  have hmx:=HQ3.out.mx
  rw[← hn] at hap c3 d3 HG4 HU5 HX HLL HLS hmx
  have HN:=Lib.hid hn
  clear hG4 hT hU4 hal hn HQ3 HR3 HB3
  have n0:(0:Int)≤n:=by omega
  have n1:(n:Int)<(n:Int)+1:=by omega
  have n2:IntKind.i64.wrap (n:Int)=n:=IntWalk.i64_in _ (by omega)
  generalize tX t 0 pin=A at *
  have hix:=fun w=>ixT_run w T c n
  go_region_law (refine step_append_run rfl (.tmp 31) (.tmp 33) 173 rfl hap ?_)
  all_goals
   clear hap c3 d3 l3 l3d l4 l4d hbs e3 f3
   generalize w4.setCell ⟨R,3,none⟩ (.slice (some ⟨T,0,none⟩) (n+1) c)=w5 at *
   have c3:w5.cell? ⟨R,3,none⟩=some (.slice (some ⟨T,0,none⟩) (n+1) c):=by have:=HG4.out.c3;rwa [HLL.out] at this
   have HWT:=Lib.hid (waitG_is HG4.out.drew HX.out)
   go_upto_region 6 with fail
   go_region_held3 (fun wx=>wx.cell? ⟨R,3,none⟩=some (.slice (some ⟨T,0,none⟩) (n+1) c)) (first|assumption|exact hS6) ((go_at_call 138;refine HWT.out.mono ?_;rintro e6 w6 ⟨rfl,hr6,hu6⟩;have hS6:w6.cell? ⟨R,3,none⟩=some (.slice (some ⟨T,0,none⟩) (n+1) c):=(by have:=hr6.c3;rwa [List.length_set,HLL.out] at this)))
   clear hS6
   rw[HLS.out] at hr6
   have HU6:=Lib.hid (HU5.out.trans' ((Upd.drew w5).trans hu6) (fun k hk e=>by
        rcases e with e|⟨a,e1,e2⟩
        · exact .inl e
        · injection e1 with e1
          subst e1
          rcases HT3.out with q|q
          · exact .inr ⟨_,q,e2⟩
          · have e2:k=T:=e2
            omega))
   have HFI:=Lib.hid (fillG_is hr6 HP.out.1 (by omega))
   clear hr6 hu6 c3 HWT
   go_wp2_with (go_at_call 139;refine HFI.out.mono ?_;rintro e7 w7 ⟨rfl,hr7,hu7⟩;have HR7:=Lib.hid hr7;have HU7:=Lib.hid (HU6.out.trans' hu7 (fun k hk e=>by
        rcases e with e|⟨a,e1,e2⟩
        · exact .inl e
        · injection e1 with e1
          subst e1
          rcases HT3.out with q|q
          · exact .inr ⟨_,q,e2⟩
          · have e2:k=T:=e2
            omega));clear hr7 hu7)
   (try simp only[Exit.inBlock,Exit.then]);first|(refine bodyPost_ret (results_none rfl _ _ _) rfl ?_)|(refine bodyPost_end (results_none rfl _ _ _) rfl ?_)
   exact⟨rfl,⟨_,_,by rw[HLE.out];exact HR7.out,HT3.out⟩,HU7.out⟩
 | some v=>
  rw[show lowB (some v)=.bool true from rfl,show lowN (some v)=.int .i64 v from rfl]
  go_upto_region 5 with fail
  have HU0:Hid (Upd (fun k=>k=w.heap.size) w2 (w2.setCell ⟨w.heap.size,9,none⟩ (.int .i64 v))):=Lib.hid (Upd.set _ _ rfl)
  have HR3:Hid (Row (w2.setCell ⟨w.heap.size,9,none⟩ (.int .i64 v)) w.heap.size 186 (tX t v pin)):=Lib.hid (by rw[HR2.out.setCell];exact HR2.out.setRow _)
  have HQ3:=Lib.hid (HQ2.out.upd HU0.out (fun e=>hne e) (fun a e q=>by
      rcases HH.out.row with ⟨q1,_⟩|⟨T,C,q1,q2⟩
      · rw[e] at q1;cases q1
      · rw[e] at q1;injection q1 with q1;subst q1;have:=q2.row.lt;have q:T=w.heap.size:=q;omega))
  have HB3:=Lib.hid (HB2.out.trans (HU0.out.toBelow (B:=w.heap.size) HB2.out.size (fun k hk e=>by omega)))
  clear HU0
  generalize w2.setCell ⟨w.heap.size,9,none⟩ (.int .i64 v)=w3 at *
  clear x1 x9 f9 HR2 HQ2 HB2
  obtain⟨n,hn⟩:∃n,n=l.length:=⟨_,rfl⟩
  have hal:=Go.Joins.below_alloc1 w3 (.cells (tX t v pin) 186)
  obtain⟨T,c,w4,hap,hG4,⟨u3,e3⟩,f3,hT,hU4⟩:=app_any HQ3.out.drew (tX_in t v pin) rfl HP.out.2
  have hap:(Builtin.append_ #[173,173] 173 #[.slice ad l.length cap,.slice (some ⟨w3.heap.size,0,none⟩) 1 1]).run Tryz.prog ((w3.alloc (.cells (tX t v pin) 186)).drew)=.ok (.slice (some ⟨T,0,none⟩) (l.length+1) c) w4:=hap
  have c3:=HQ3.out.c3
  have d3:=(HQ3.out.keep hal).c3
  have l3:=HR3.out.ld0 (d:=_) Tryz.underlying186 rfl (by kernel_rfl)
  have l3d:=HR3.out.drew.ld0 (d:=_) Tryz.underlying186 rfl (by kernel_rfl)
  have l4:=(HR3.out.keep hal).ld0 (d:=_) Tryz.underlying186 rfl (by kernel_rfl)
  have l4d:=(HR3.out.keep hal).drew.ld0 (d:=_) Tryz.underlying186 rfl (by kernel_rfl)
  have hbs:=fun w=>bsT_any w t v pin
  have HG4:=Lib.hid hG4
  have HT3:Hid (ad=some ⟨T,0,none⟩∨w.heap.size≤T):=Lib.hid (by rcases hT with q|q;exact .inl q;exact .inr (Nat.le_trans HB3.out.size q))
  have HU5:=Lib.hid (((Upd.below HB3.out).trans ((Upd.drew w3).trans hU4)).trans (Upd.set w4 (i:=3) (.slice (some ⟨T,0,none⟩) (l.length+1) c) (S:=rS R ad) (b:=R) (.inl rfl)))
  have HX:Hid ((l++[(⟨t,v,true,0⟩:Tk)])[l.length]?=some ⟨t,v,true,0⟩):=Lib.hid (by simp)
  have HLL:Hid ((l++[(⟨t,v,true,0⟩:Tk)]).length=l.length+1):=Lib.hid (by simp)
  have HLS:Hid ((l++[(⟨t,v,true,0⟩:Tk)]).set l.length ⟨t,v,true,-1⟩=l++[⟨t,v,true,-1⟩]):=Lib.hid (by simp)
  have hmx:=HQ3.out.mx
  rw[← hn] at hap c3 d3 HG4 HU5 HX HLL HLS hmx
  have HN:=Lib.hid hn
  clear hG4 hT hU4 hal hn HQ3 HR3 HB3
  have n0:(0:Int)≤n:=by omega
  have n1:(n:Int)<(n:Int)+1:=by omega
  have n2:IntKind.i64.wrap (n:Int)=n:=IntWalk.i64_in _ (by omega)
  generalize tX t v pin=A at *
  have hix:=fun w=>ixT_run w T c n
  go_region_law (refine step_append_run rfl (.tmp 31) (.tmp 33) 173 rfl hap ?_)
  all_goals
   clear hap c3 d3 l3 l3d l4 l4d hbs e3 f3
   generalize w4.setCell ⟨R,3,none⟩ (.slice (some ⟨T,0,none⟩) (n+1) c)=w5 at *
   have c3:w5.cell? ⟨R,3,none⟩=some (.slice (some ⟨T,0,none⟩) (n+1) c):=by have:=HG4.out.c3;rwa [HLL.out] at this
   have HWT:=Lib.hid (waitG_is HG4.out.drew HX.out)
   go_upto_region 6 with fail
   go_region_held3 (fun wx=>wx.cell? ⟨R,3,none⟩=some (.slice (some ⟨T,0,none⟩) (n+1) c)) (first|assumption|exact hS6) ((go_at_call 138;refine HWT.out.mono ?_;rintro e6 w6 ⟨rfl,hr6,hu6⟩;have hS6:w6.cell? ⟨R,3,none⟩=some (.slice (some ⟨T,0,none⟩) (n+1) c):=(by have:=hr6.c3;rwa [List.length_set,HLL.out] at this)))
   clear hS6
   rw[HLS.out] at hr6
   have HU6:=Lib.hid (HU5.out.trans' ((Upd.drew w5).trans hu6) (fun k hk e=>by
        rcases e with e|⟨a,e1,e2⟩
        · exact .inl e
        · injection e1 with e1
          subst e1
          rcases HT3.out with q|q
          · exact .inr ⟨_,q,e2⟩
          · have e2:k=T:=e2
            omega))
   have HFI:=Lib.hid (fillG_is hr6 HP.out.1 (by omega))
   clear hr6 hu6 c3 HWT
   go_wp2_with (go_at_call 139;refine HFI.out.mono ?_;rintro e7 w7 ⟨rfl,hr7,hu7⟩;have HR7:=Lib.hid hr7;have HU7:=Lib.hid (HU6.out.trans' hu7 (fun k hk e=>by
        rcases e with e|⟨a,e1,e2⟩
        · exact .inl e
        · injection e1 with e1
          subst e1
          rcases HT3.out with q|q
          · exact .inr ⟨_,q,e2⟩
          · have e2:k=T:=e2
            omega));clear hr7 hu7)
   (try simp only[Exit.inBlock,Exit.then]);first|(refine bodyPost_ret (results_none rfl _ _ _) rfl ?_)|(refine bodyPost_end (results_none rfl _ _ _) rfl ?_)
   exact⟨rfl,⟨_,_,by rw[HLE.out];exact HR7.out,HT3.out⟩,HU7.out⟩
end
end Go.Proofs.YtfkepfncgdlgoaaGreatDoor
namespace Go.Proofs.YtfkepfncgdlgoaaGreatDoor
open Go.RowKit
def onePin (m:Nat):Int:=wrap64 (wrap64 (2 ^ m)-1)
theorem onePin_ok {m:Nat}(hm:m≤8):∀c,c<m→pinOk (onePin m) c:=by
 have h:∀m,m<9→∀c,c<m→bits .and .i64 (onePin m / 2 ^ c) 1=1:=by decide +kernel
 exact fun c hc=>h m (by omega) c hc
section
variable {w w':World} {R cap:Nat} {ad:Option Addr} {cpus ticks pin:Int} {l:List Tk}
theorem snewG_is (w:World) {m:Nat}(h1:1≤m)(h8:m≤4):Calls Tryz.prog 29 #[.int .i64 m] w fun e w'=>e=.returned (.tuple #[.pointer (some ⟨w.heap.size,0,none⟩),.int .i64 0])∧Below w.heap.size w w'∧w'.heap.size=w.heap.size+1∧RunG w' w.heap.size none 0 m 0 (onePin m) []:=by
 have hr:=row_new w 175 #[.int .i64 m,.int .i64 0,.int .i64 0,.slice none 0 0]
 have HQ:Hid (RunG (w.alloc (.cells #[.int .i64 m,.int .i64 0,.int .i64 0,.slice none 0 0] 175)) w.heap.size none 0 m 0 (onePin m) []):=Lib.hid ⟨hr.lt,hr.fz,by rw[hr.cell];rfl,by rw[hr.cell];rfl,⟨0,by rw[hr.cell];rfl⟩,by rw[hr.cell];rfl,.inl ⟨rfl,rfl,rfl⟩⟩
 clear hr
 have:m=1∨m=2∨m=3∨m=4:=by omega
 rcases this with rfl|rfl|rfl|rfl
 all_goals
  clear h1 h8
  go_enter Tryz.func29,Tryz.ntmps29
  go_wp2_with fail
  go_ret2
  exact⟨rfl,Go.Joins.below_alloc1 w _,by simp,HQ.out⟩
theorem valueG_is (w:World):Calls Tryz.prog 63 #[.int .i64 1,.int .i64 10] w fun e w'=>e=.returned (.bool true)∧w=w':=by
 go_enter Tryz.func63,Tryz.ntmps63
 go_wp2_with fail
 go_ret
 exact⟨rfl,rfl⟩
theorem addG_is {m:Nat}(h:RunG w R ad cap m ticks (onePin m) l) {t:Int}(h1:1≤t)(h2:t≤16)(ht:idG l t=none)(hm:m≤8)(hl:l.length<1000):Calls Tryz.prog 32 #[.pointer (some ⟨R,0,none⟩),.int .i64 t,.int .i64 1,.int .i64 10] w fun e w'=>e=.returned (.int .i64 0)∧(∃T c,RunG w' R (some ⟨T,0,none⟩) c m ticks (onePin m) (enterL l t m)∧(ad=some ⟨T,0,none⟩∨w.heap.size≤T))∧Upd (rS R ad) w w':=by
 have HV:=Lib.hid (valueG_is w)
 have HF:=Lib.hid (find_is h t)
 rw[ht,ptrG_none] at HF
 have HE:=Lib.hid (enterG_is h t hm hl rfl (onePin_ok hm))
 clear h ht
 go_enter Tryz.func32,Tryz.ntmps32
 go_wp2_with (first|(go_at_call 63;refine HV.out.mono ?_;rintro e1 w1 ⟨rfl,rfl⟩)|(go_at_call 64;refine HF.out.mono ?_;rintro e1 w1 ⟨rfl,rfl⟩)|(go_at_call 65;refine HE.out.mono ?_;rintro e1 w1 ⟨rfl,hr1,hu1⟩;have HR1:=Lib.hid hr1;have HU1:=Lib.hid hu1;clear hr1 hu1))
 go_ret
 exact⟨rfl,HR1.out,HU1.out⟩
theorem snew1_is (w:World):Calls Tryz.prog 29 #[.int .i64 1] w fun e w'=>e=.returned (.tuple #[.pointer (some ⟨w.heap.size,0,none⟩),.int .i64 0])∧Below w.heap.size w w'∧w'.heap.size=w.heap.size+1∧RunG w' w.heap.size none 0 1 0 (onePin 1) []:=snewG_is w (m:=1) (by decide) (by decide)
theorem enter1:enterL [] 1 1=[⟨1,0,true,0⟩]:=by rfl
theorem add1_is (h:RunG w R none 0 1 0 (onePin 1) []):Calls Tryz.prog 32 #[.pointer (some ⟨R,0,none⟩),.int .i64 1,.int .i64 1,.int .i64 10] w fun e w'=>e=.returned (.int .i64 0)∧(∃T c,RunG w' R (some ⟨T,0,none⟩) c 1 0 (onePin 1) [⟨1,0,true,0⟩]∧w.heap.size≤T)∧Upd (fun k=>k=R) w w':=by
 refine(addG_is (m:=1) h (t:=1) (by decide) (by decide) rfl (by decide) (by decide)).mono ?_
 rintro e w' ⟨rfl,⟨T,c,hr,hT⟩,hu⟩
 rw[enter1] at hr
 refine⟨rfl,⟨T,c,hr,?_⟩,hu.mono fun k _ e=>?_⟩
 ·rcases hT with q|q
  ·cases q
  ·exact q
 ·rcases e with e|⟨a,e,_⟩
  ·exact e
  ·cases e
end
end Go.Proofs.YtfkepfncgdlgoaaGreatDoor
namespace Go.Proofs.YtfkepfncgdlgoaaGreatDoor
theorem wraps_i64 (n:Int)(h₀:0≤n)(h₁:n<2 ^ 63):IntKind.i64.wrap n=n:=by rw[IntKind.wrap_i64];omega
theorem i64_and (a b:Nat)(ha:a<2 ^ 63)(hb:b<2 ^ 63):bits .and .i64 (a:Int) (b:Int)=((a &&& b:Nat):Int):=
 (bits_nat .i64 63 (by decide) wraps_i64 a b ha hb).1
def less (a b:Nat):Nat:=a ^^^ (a &&& b)
theorem less_bit (a b i:Nat):(less a b).testBit i=(a.testBit i && !b.testBit i):=by
 simp[less];cases a.testBit i <;> cases b.testBit i <;> rfl
theorem less_le (a b:Nat):less a b≤a:=by
 have h:less a b &&& a=less a b:=by
  apply Nat.eq_of_testBit_eq;intro i
  rw[Nat.testBit_and,less_bit];cases a.testBit i <;> cases b.testBit i <;> rfl
 rw[← h];exact Nat.and_le_right
theorem i64_andNot (a b:Nat)(ha:a<2 ^ 63) (_hb:b<2 ^ 63):bits .andNot .i64 (a:Int) (b:Int)=((less a b:Nat):Int):=by
 have hle:=less_le a b
 have e:(BitVec.ofInt 64 (a:Int) &&& ~~~BitVec.ofInt 64 (b:Int)).toNat=less a b:=by
  apply Nat.eq_of_testBit_eq
  intro i
  rw[less_bit,BitVec.testBit_toNat,BitVec.getLsbD_and,BitVec.getLsbD_not,BitVec.ofInt_natCast,BitVec.ofInt_natCast,BitVec.getLsbD_ofNat,BitVec.getLsbD_ofNat]
  by_cases hi:i<64
  ·simp[hi]
  ·have:a.testBit i=false:=Nat.testBit_lt_two_pow (Nat.lt_of_lt_of_le ha (Nat.pow_le_pow_right (by decide) (by omega)))
   simp[hi,this]
 show IntKind.i64.wrap ((BitVec.ofInt 64 (a:Int) &&& ~~~BitVec.ofInt 64 (b:Int)).toNat:Int)=_
 rw[e]
 exact wraps_i64 _ (Int.natCast_nonneg _) (by have:less a b<2 ^ 63:=Nat.lt_of_le_of_lt hle ha;exact_mod_cast this)
theorem less_zero (a b:Nat):less a b=0↔∀i,a.testBit i=true→b.testBit i=true:=by
 constructor
 ·intro h i ha
  have:=less_bit a b i
  rw[h,ha] at this
  simpa using this.symm
 ·intro h
  apply Nat.eq_of_testBit_eq
  intro i
  rw[less_bit,Nat.zero_testBit]
  cases ha:a.testBit i
  ·rfl
  ·rw[h i ha];rfl
end Go.Proofs.YtfkepfncgdlgoaaGreatDoor
namespace Go.Proofs.YtfkepfncgdlgoaaGreatDoor.ProcLaw
structure E where
 st:Int
 par:Int
 gr:Int
 code:Int
abbrev T:=Nat→E
abbrev e0:E:=⟨0,0,0,0⟩
def updE (t:T) (k:Nat) (e:E):T:=fun j=>if j=k then e else t j
def start:T:=updE (fun _=>e0) 1 ⟨1,0,1,0⟩
def orphan (p:Nat) (e:E):E:=if e.st≠0∧e.par=p then ⟨e.st,1,e.gr,e.code⟩ else e
def lost (t:T) (p k:Nat):T:=fun j=>if j<k then orphan p (t j) else t j
def ended (t:T) (p:Nat) (c:Int):T:=updE (lost t p 17) p ⟨2,(lost t p 17 p).par,(lost t p 17 p).gr,c⟩
def cnt (t:T):Nat:=(List.range 15).countP (fun i=>decide ((t (i+2)).st≠0))
end Go.Proofs.YtfkepfncgdlgoaaGreatDoor.ProcLaw
namespace Go.Proofs.YtfkepfncgdlgoaaGreatDoor.ProcLaw
open Go.RowKit
structure TabAt (w:World) (b:Nat) (t:T):Prop where
 lt:b<w.heap.size
 fz:∀i,w.frozen? ⟨b,i,none⟩=false
 st:∀k,k<17→w.cell? ⟨b,k*4,none⟩=some (.int .i64 (t k).st)
 par:∀k,k<17→w.cell? ⟨b,k*4+1,none⟩=some (.int .i64 (t k).par)
 gr:∀k,k<17→w.cell? ⟨b,k*4+2,none⟩=some (.int .i64 (t k).gr)
 code:∀k,k<17→w.cell? ⟨b,k*4+3,none⟩=some (.int .i64 (t k).code)
theorem TabAt.keep {w w':World} {b:Nat} {t:T}(h:TabAt w b t)(hb:Below w.heap.size w w'):TabAt w' b t:=by
 refine⟨Nat.lt_of_lt_of_le h.lt hb.size,fun i=>(hb.frozen (p:=⟨b,i,none⟩) h.lt).trans (h.fz i),?_,?_,?_,?_⟩ <;> intro k hk
 ·exact(hb.cell (p:=⟨b,_,none⟩) h.lt).trans (h.st k hk)
 ·exact(hb.cell (p:=⟨b,_,none⟩) h.lt).trans (h.par k hk)
 ·exact(hb.cell (p:=⟨b,_,none⟩) h.lt).trans (h.gr k hk)
 ·exact(hb.cell (p:=⟨b,_,none⟩) h.lt).trans (h.code k hk)
theorem set_other {w:World} {b i j:Nat} {v u:Value}(hij:i≠j)(h:w.cell? ⟨b,j,none⟩=some u):(w.setCell ⟨b,i,none⟩ v).cell? ⟨b,j,none⟩=some u:=by
 rw[World.cell?_setCell_other]
 ·exact h
 ·intro e;exact hij (by simpa using congrArg Addr.off e)
theorem set_same {w:World} {b i:Nat} {v u:Value}(h:w.cell? ⟨b,i,none⟩=some u):(w.setCell ⟨b,i,none⟩ v).cell? ⟨b,i,none⟩=some v:=by
 simp[go_sem,h]
theorem number_any (n:Int) (w:World):Calls Tryz.prog 66 #[.int .i64 n] w fun e w'=>e=.returned (.bool (decide (1≤n) && decide (n≤16)))∧w=w':=by
 by_cases h1:1≤n
 ·by_cases h2:n≤16
  ·go_enter Tryz.func66,Tryz.ntmps66
   go_wp2
   go_ret
   exact⟨by simp[h1,h2],rfl⟩
  ·go_enter Tryz.func66,Tryz.ntmps66
   go_wp2
   go_ret
   exact⟨by simp[h1,h2],rfl⟩
 ·go_enter Tryz.func66,Tryz.ntmps66
  go_wp2
  go_ret
  exact⟨by rw[show decide (1≤n)=false from by simp;omega];rfl,rfl⟩
theorem state_is {w:World} {b k:Nat} {t:T}(h:TabAt w b t)(h1:1≤k)(h2:k≤16):Calls Tryz.prog 33 #[.pointer (some ⟨b,0,none⟩),.int .i64 k] w fun e w'=>e=.returned (.tuple #[.int .i64 (t k).st,.int .i64 0])∧w=w':=by
 have hd:(decide (1≤(k:Int)) && decide ((k:Int)≤16))=true:=by simp;omega
 have hk:(k:Int)<17:=by omega
 have hc:=h.st k (by omega)
 have HD:=Lib.hid hd
 clear hd
 go_enter Tryz.func33,Tryz.ntmps33
 go_wp2_with fail
 refine(number_any _ _).mono ?_
 rintro e w1 ⟨rfl,rfl⟩
 rw[HD.out]
 go_wp2
 go_ret2
 exact⟨rfl,rfl⟩
def ints68:List Int:=[0,0,0,0,1,0,1,0]++List.replicate 60 0
theorem ints_at:∀k:Fin 17,ints68[k.val*4]?=some (start k.val).st∧ints68[k.val*4+1]?=some (start k.val).par∧ints68[k.val*4+2]?=some (start k.val).gr∧ints68[k.val*4+3]?=some (start k.val).code:=by decide +kernel
theorem tab_new (w:World) (Y:TypeId):TabAt (w.alloc (.cells (ints68.map (Value.int .i64)).toArray Y)) w.heap.size start:=by
 have h:=has_new w (ints68.map (Value.int .i64)) Y
 refine⟨h.1,fun i=>frozen_of_row _ _ _ _ _ (heap_alloc_new _ _),?_,?_,?_,?_⟩ <;> intro k hk <;> apply h.2 <;> rw[List.getElem?_map]
 ·rw[(ints_at ⟨k,hk⟩).1];rfl
 ·rw[(ints_at ⟨k,hk⟩).2.1];rfl
 ·rw[(ints_at ⟨k,hk⟩).2.2.1];rfl
 ·rw[(ints_at ⟨k,hk⟩).2.2.2];rfl
theorem new_is (w:World):Calls Tryz.prog 28 #[] w fun e w'=>e=.returned (.pointer (some ⟨w.heap.size,0,none⟩))∧Below w.heap.size w w'∧TabAt w' w.heap.size start:=by
 go_enter Tryz.func28,Tryz.ntmps28
 go_wp2
 go_ret
 refine⟨rfl,(Below.refl _ _).alloc (Nat.le_refl _) _,?_⟩
 have e:(((Tryz.zeroCells172.setIfInBounds 4 (.int .i64 1)).setIfInBounds 5 (.int .i64 0)).setIfInBounds 6 (.int .i64 1)).setIfInBounds 7 (.int .i64 0)=(ints68.map (Value.int .i64)).toArray:=by kernel_rfl
 have:=tab_new w 172
 rw[← e] at this
 exact this
end Go.Proofs.YtfkepfncgdlgoaaGreatDoor.ProcLaw
namespace Go.Proofs.YtfkepfncgdlgoaaGreatDoor.OpenLaw
open Go.RowKit
structure F where
 kind:Int
 id:Int
 may:Int
 more:Bool
 pos:Int
 n:Int
abbrev f0:F:=⟨0,0,0,false,0,0⟩
def thing (f:F):Value:=.agg #[.int .i64 f.kind,.int .i64 f.id,.int .i64 f.may,.bool f.more,.int .i64 f.pos]
def updF (t:Nat→F) (k:Nat) (f:F):Nat→F:=fun j=>if j=k then f else t j
theorem updF_same (t:Nat→F) (k:Nat) (e:F):updF t k e k=e:=by simp[updF]
theorem updF_other (t:Nat→F) {k j:Nat} (e:F)(h:j≠k):updF t k e j=t j:=by simp[updF,h]
theorem updF_twice (t:Nat→F) (k:Nat) (e e':F):updF (updF t k e) k e'=updF t k e':=by
 funext j;by_cases h:j=k <;> simp[updF,h]
def updN (t:Nat→Nat) (k:Nat) (x:Nat):Nat→Nat:=fun j=>if j=k then x else t j
theorem updN_same (t:Nat→Nat) (k x:Nat):updN t k x k=x:=by simp[updN]
theorem updN_other (t:Nat→Nat) {k j:Nat} (x:Nat)(h:j≠k):updN t k x j=t j:=by simp[updN,h]
structure OTab (w:World) (b:Nat) (fs:Nat→F) (fd:Nat→Nat):Prop where
 lt:b<w.heap.size
 fz:∀i,w.frozen? ⟨b,i,none⟩=false
 le:∀i,fd i≤32
 c0:∀k,k<32→w.cell? ⟨b,k*6,none⟩=some (.int .i64 (fs k).kind)
 c1:∀k,k<32→w.cell? ⟨b,k*6+1,none⟩=some (.int .i64 (fs k).id)
 c2:∀k,k<32→w.cell? ⟨b,k*6+2,none⟩=some (.int .i64 (fs k).may)
 c3:∀k,k<32→w.cell? ⟨b,k*6+3,none⟩=some (.bool (fs k).more)
 c4:∀k,k<32→w.cell? ⟨b,k*6+4,none⟩=some (.int .i64 (fs k).pos)
 c5:∀k,k<32→w.cell? ⟨b,k*6+5,none⟩=some (.int .i64 (fs k).n)
 d:∀p j,p<17→j<8→w.cell? ⟨b,192+p*8+j,none⟩=some (.int .i64 (fd (p*8+j):Nat))
theorem OTab.keep {w w':World} {b:Nat} {fs:Nat→F} {fd:Nat→Nat}(h:OTab w b fs fd)(hb:Below w.heap.size w w'):OTab w' b fs fd:=by
 refine⟨Nat.lt_of_lt_of_le h.lt hb.size,fun i=>(hb.frozen (p:=⟨b,i,none⟩) h.lt).trans (h.fz i),h.le,?_,?_,?_,?_,?_,?_,?_⟩
 ·exact fun k hk=>(hb.cell (p:=⟨b,_,none⟩) h.lt).trans (h.c0 k hk)
 ·exact fun k hk=>(hb.cell (p:=⟨b,_,none⟩) h.lt).trans (h.c1 k hk)
 ·exact fun k hk=>(hb.cell (p:=⟨b,_,none⟩) h.lt).trans (h.c2 k hk)
 ·exact fun k hk=>(hb.cell (p:=⟨b,_,none⟩) h.lt).trans (h.c3 k hk)
 ·exact fun k hk=>(hb.cell (p:=⟨b,_,none⟩) h.lt).trans (h.c4 k hk)
 ·exact fun k hk=>(hb.cell (p:=⟨b,_,none⟩) h.lt).trans (h.c5 k hk)
 ·exact fun p j hp hj=>(hb.cell (p:=⟨b,_,none⟩) h.lt).trans (h.d p j hp hj)
section
variable {w:World} {b:Nat} {fs:Nat→F} {fd:Nat→Nat}
theorem OTab.drew (h:OTab w b fs fd):OTab w.drew b fs fd:=h.keep (Below.refl _ _).drew
theorem OTab.alloc (h:OTab w b fs fd) (o:Obj):OTab (w.alloc o) b fs fd:=h.keep ((Below.refl _ _).alloc (Nat.le_refl _) o)
theorem set_other {i j:Nat} {v u:Value}(hij:i≠j)(h:w.cell? ⟨b,j,none⟩=some u):(w.setCell ⟨b,i,none⟩ v).cell? ⟨b,j,none⟩=some u:=by
 rw[World.cell?_setCell_other]
 ·exact h
 ·intro e;exact hij (by simpa using congrArg Addr.off e)
theorem set_same {i:Nat} {v u:Value}(h:w.cell? ⟨b,i,none⟩=some u):(w.setCell ⟨b,i,none⟩ v).cell? ⟨b,i,none⟩=some v:=by
 simp[go_sem,h]
theorem OTab.setF (h:OTab w b fs fd) {k f:Nat}(hk:k<32)(hf:f<6) {v:Value} {e:F}
  (e0:some (if f=0 then v else .int .i64 (fs k).kind)=some (.int .i64 e.kind)) (e1:some (if f=1 then v else .int .i64 (fs k).id)=some (.int .i64 e.id)) (e2:some (if f=2 then v else .int .i64 (fs k).may)=some (.int .i64 e.may))
  (e3:some (if f=3 then v else .bool (fs k).more)=some (.bool e.more)) (e4:some (if f=4 then v else .int .i64 (fs k).pos)=some (.int .i64 e.pos)) (e5:some (if f=5 then v else .int .i64 (fs k).n)=some (.int .i64 e.n)) :
  OTab (w.setCell ⟨b,k*6+f,none⟩ v) b (updF fs k e) fd:=by
 refine⟨by simpa using h.lt,fun i=>by rw[World.frozen?_setCell];exact h.fz i,h.le,?_,?_,?_,?_,?_,?_,?_⟩
 ·intro j hj
  by_cases ej:j=k
  ·subst ej;rw[updF_same,← e0]
   by_cases ef:f=0
   ·subst ef;rw[if_pos rfl];exact set_same (h.c0 _ hk)
   ·rw[if_neg ef];exact set_other (by omega) (h.c0 _ hk)
  ·rw[updF_other _ _ ej];exact set_other (by omega) (h.c0 j hj)
 ·intro j hj
  by_cases ej:j=k
  ·subst ej;rw[updF_same,← e1]
   by_cases ef:f=1
   ·subst ef;rw[if_pos rfl];exact set_same (h.c1 _ hk)
   ·rw[if_neg ef];exact set_other (by omega) (h.c1 _ hk)
  ·rw[updF_other _ _ ej];exact set_other (by omega) (h.c1 j hj)
 ·intro j hj
  by_cases ej:j=k
  ·subst ej;rw[updF_same,← e2]
   by_cases ef:f=2
   ·subst ef;rw[if_pos rfl];exact set_same (h.c2 _ hk)
   ·rw[if_neg ef];exact set_other (by omega) (h.c2 _ hk)
  ·rw[updF_other _ _ ej];exact set_other (by omega) (h.c2 j hj)
 ·intro j hj
  by_cases ej:j=k
  ·subst ej;rw[updF_same,← e3]
   by_cases ef:f=3
   ·subst ef;rw[if_pos rfl];exact set_same (h.c3 _ hk)
   ·rw[if_neg ef];exact set_other (by omega) (h.c3 _ hk)
  ·rw[updF_other _ _ ej];exact set_other (by omega) (h.c3 j hj)
 ·intro j hj
  by_cases ej:j=k
  ·subst ej;rw[updF_same,← e4]
   by_cases ef:f=4
   ·subst ef;rw[if_pos rfl];exact set_same (h.c4 _ hk)
   ·rw[if_neg ef];exact set_other (by omega) (h.c4 _ hk)
  ·rw[updF_other _ _ ej];exact set_other (by omega) (h.c4 j hj)
 ·intro j hj
  by_cases ej:j=k
  ·subst ej;rw[updF_same,← e5]
   by_cases ef:f=5
   ·subst ef;rw[if_pos rfl];exact set_same (h.c5 _ hk)
   ·rw[if_neg ef];exact set_other (by omega) (h.c5 _ hk)
  ·rw[updF_other _ _ ej];exact set_other (by omega) (h.c5 j hj)
 ·intro p j hp hj
  exact set_other (by omega) (h.d p j hp hj)
theorem OTab.setPos (h:OTab w b fs fd) {k:Nat}(hk:k<32) (x:Int):OTab (w.setCell ⟨b,k*6+4,none⟩ (.int .i64 x)) b (updF fs k { fs k with pos:=x }) fd:=h.setF hk (by decide) rfl rfl rfl rfl rfl rfl
theorem OTab.setD (h:OTab w b fs fd) {p j:Nat}(hp:p<17)(hj:j<8) {x:Nat}(hx:x≤32):OTab (w.setCell ⟨b,192+p*8+j,none⟩ (.int .i64 x)) b fs (updN fd (p*8+j) x):=by
 refine⟨by simpa using h.lt,fun i=>by rw[World.frozen?_setCell];exact h.fz i,?_,?_,?_,?_,?_,?_,?_,?_⟩
 ·intro i
  unfold updN
  split
  ·exact hx
  ·exact h.le i
 ·exact fun k hk=>set_other (by omega) (h.c0 k hk)
 ·exact fun k hk=>set_other (by omega) (h.c1 k hk)
 ·exact fun k hk=>set_other (by omega) (h.c2 k hk)
 ·exact fun k hk=>set_other (by omega) (h.c3 k hk)
 ·exact fun k hk=>set_other (by omega) (h.c4 k hk)
 ·exact fun k hk=>set_other (by omega) (h.c5 k hk)
 ·intro p' j' hp' hj'
  by_cases e:p'*8+j'=p*8+j
  ·have h1:p'=p:=by omega
   have h2:j'=j:=by omega
   subst h1;subst h2
   rw[updN_same];exact set_same (h.d _ _ hp hj)
  ·rw[updN_other _ _ e];exact set_other (by omega) (h.d p' j' hp' hj')
end
theorem owner_any (n:Int) (w:World):Calls Tryz.prog 142 #[.int .i64 n] w fun e w'=>e=.returned (.bool (decide (1≤n) && decide (n≤16)))∧w=w':=by
 by_cases h1:1≤n
 ·by_cases h2:n≤16
  ·go_enter Tryz.func142,Tryz.ntmps142
   go_wp2
   go_ret
   exact⟨by simp[h1,h2],rfl⟩
  ·go_enter Tryz.func142,Tryz.ntmps142
   go_wp2
   go_ret
   exact⟨by simp[h1,h2],rfl⟩
 ·go_enter Tryz.func142,Tryz.ntmps142
  go_wp2
  go_ret
  exact⟨by rw[show decide (1≤n)=false from by simp;omega];rfl,rfl⟩
theorem owner_is {p:Nat}(h1:1≤p)(h2:p≤16) (w:World):Calls Tryz.prog 142 #[.int .i64 p] w fun e w'=>e=.returned (.bool true)∧w=w':=by
 have:=owner_any p w
 rw[show (decide ((1:Int)≤p) && decide ((p:Int)≤16))=true from by simp;omega] at this
 exact this
def FindPost (b:Nat) (x:Nat) (w:World) (e:Ending) (w':World):Prop:=
 e=.returned (.tuple #[if x=0 then .pointer none else .pointer (some ⟨b,(x-1)*6,none⟩),.int .i64 (if x=0 then 4 else 0)])∧Below w.heap.size w w'
theorem find_is {w:World} {b p j:Nat} {fs:Nat→F} {fd:Nat→Nat}(h:OTab w b fs fd)(h1:1≤p)(h2:p≤16)(hj:j<8):Calls Tryz.prog 154 #[.pointer (some ⟨b,0,none⟩),.int .i64 p,.int .i64 j] w (FindPost b (fd (p*8+j)) w):=by
 have hc:=h.d p j (by omega) hj
 have hle:=h.le (p*8+j)
 have HO:=Lib.hid (owner_is h1 h2 w)
 have hpi:(p:Int)<17:=by omega
 have hji:(j:Int)<8:=by omega
 have g2:decide ((8:Int)≤j)=false:=by simp;omega
 have g5:¬(8≤j):=by omega
 unfold FindPost
 generalize fd (p*8+j)=x at *
 clear h h1 h2
 by_cases hx:x=0
 ·subst hx
  go_enter Tryz.func154,Tryz.ntmps154
  go_wp2_with fail
  refine HO.out.mono ?_
  rintro e w1 ⟨rfl,rfl⟩
  go_wp2
  go_ret2
  exact⟨rfl,Below.refl _ _⟩
 ·obtain⟨k,rfl⟩:∃k,x=k+1:=⟨x-1,by omega⟩
  have hki:(k:Int)<32:=by omega
  rw[show ((k+1:Nat):Int)=(k:Int)+1 from rfl] at hc
  have hne:((k:Int)+1 == 0)=false:=by simp;omega
  clear hx hle
  go_enter Tryz.func154,Tryz.ntmps154
  go_wp2_with fail
  refine HO.out.mono ?_
  rintro e w1 ⟨rfl,rfl⟩
  go_wp2_with fail
  go_region
  go_wp2
  go_ret2
  exact⟨rfl,(Below.refl _ _).drew⟩
end Go.Proofs.YtfkepfncgdlgoaaGreatDoor.OpenLaw
