/- Sets of signals by whole rows: the walks of Hold, Next, Take, sigs. Sets of signals by whole rows: the walks of Take and sigs; sets compared. The walks of the kernel's living, between, fail. The walks of Ask's closure, do, Ask. The walk of the kernel's Ask. What keeps the tables of processes and of descriptors; answers that are built; the kernel's fail. The kernel with its processes: what holds of it, and what keeps it. No walk here. Walks of the kernel at any process that lives: living, between, Ask's closure, do, Ask; process's switch. A kernel that has begun, as one state. Maps with int keys, by a code of their elements: as functions. The maps of package fs. -/
import Derived.Test.YtfkepfncgdlgoaaGreatDoorSigRow
import Derived.Laws.StructEq
import Derived.ChangeKeysEq
import Derived.Test.YtfkepfncgdlgoaaGreatDoorForest
import Derived.Test.YtfkepfncgdlgoaaGreatDoorSprB
import Derived.Test.YtfkepfncgdlgoaaGreatDoorDisk2
set_option linter.unusedVariables false
set_option linter.unusedSimpArgs false
set_option maxRecDepth 100000
set_option maxHeartbeats 1000000
namespace Go.Proofs.YtfkepfncgdlgoaaGreatDoor.SigLaw
open Go.RowKit
attribute [local go_sem ↓] load58_eq store58_eq zero58 cells58
def HoldPost (g:G) (m:Nat) (w:World) (e:Ending) (w':World):Prop:=
 ∃en g',e=.returned (.tuple #[.agg (cellsA g'),.int .i64 en])∧Below w.heap.size w w'∧((en=0∧good g∧g'=⟨g.p,(less m 512:Nat),g.h⟩)∨(en≠0∧¬good g))
theorem hold_is (g:G) (m:Nat) (w:World)(hB:BB g)(hm:m<65536)(hm0:m.testBit 0=false):Calls Tryz.prog 96 #[.agg (cellsA g),.int .i64 m] w (HoldPost g m w):=by
 have HC:=Lib.hid (check_b g ((w.alloc (.cells (cellsA g) 60)).alloc (.cells (cellsA zeroG) 60)) hB)
 have HT:=Lib.hid (two_new w g)
 have hl:=(two_new w g).R.load
 have hf:(bits .andNot .i64 (m:Int) 65534 != 0)=false:=by have:=nat_fit m hm hm0;unfold fitB at this;simpa using this
 have h5:bits .andNot .i64 (m:Int) 512=((less m 512:Nat):Int):=i64_andNot m 512 (by omega) (by decide)
 clear hB hm hm0
 go_enter Tryz.func96,Tryz.ntmps96
 go_wp2_with fail
 refine HC.out.mono ?_
 rintro e w1 ⟨en,rfl,hb1,hcase⟩
 have HT1:=Lib.hid (HT.out.keep hb1)
 clear hb1 hl HC HT
 rcases hcase with ⟨rfl,hg⟩|⟨hen,hg⟩
 ·have HG:=Lib.hid hg
  obtain⟨g2,hg2⟩:∃g2:G,g2=⟨g.p,((less m 512:Nat):Int),g.h⟩:=⟨_,rfl⟩
  have HT2:=Lib.hid (HT1.out.setM ((less m 512:Nat):Int))
  rw[← hg2] at HT2
  have HG2:=Lib.hid hg2
  have c1:=HT1.out.R.c1
  have f1:=HT1.out.R.fz 1
  have hl:=HT2.out.R.load
  have hz:=HT2.out.Z.store g2
  clear hg hg2
  go_wp2
  exact bodyPost_ret (v:=.tuple #[.agg (cellsA g2),.int .i64 0]) (by rw[results_cell_tmp rfl];simp[asAddr,Result.andThen,(HT2.out.store g2).Z.loadVar]) rfl ⟨0,g2,rfl,(HT2.out.store g2).B,.inl ⟨rfl,HG.out,HG2.out⟩⟩
 ·have hen':=ne_zero hen
  have hz:=fun g'=>HT1.out.Z.store g'
  have HE:=Lib.hid hen
  have HG:=Lib.hid hg
  clear hen hg
  go_wp2
  exact bodyPost_ret (v:=.tuple #[.agg (cellsA zeroG),.int .i64 en]) (by rw[results_cell_tmp rfl];simp[asAddr,Result.andThen,(HT1.out.store zeroG).Z.loadVar]) rfl ⟨en,zeroG,rfl,(HT1.out.store zeroG).B,.inr ⟨HE.out,HG.out⟩⟩
def NextPost (g:G) (w:World) (e:Ending) (w':World):Prop:=
 ∃n en:Int,e=.returned (.tuple #[.int .i64 n,.int .i64 en])∧Below w.heap.size w w' ∧
  ((en≠0∧¬good g)∨∃P M,Right g P M∧((en=0∧∃k:Nat,n=k∧1≤k∧k≤15∧P.testBit k=true∧(k=9∨M.testBit k=false)∧(P.testBit 9=true→k=9))∨(en=4∧P.testBit 9=false∧∀k,1≤k→k≤15→P.testBit k=true→M.testBit k=true)))
theorem next_is (g:G) (w:World)(hB:BB g):Calls Tryz.prog 67 #[.agg (cellsA g)] w (NextPost g w):=by
 have HC:=Lib.hid (check_b g (w.alloc (.cells (cellsA g) 60)) hB)
 have HN:=Lib.hid (row_new w g)
 have HB1:=Lib.hid (Go.Joins.below_alloc1 w (.cells (cellsA g) 60))
 have hl:=(row_new w g).load
 clear hB
 go_enter Tryz.func67,Tryz.ntmps67
 go_wp2_with fail
 refine HC.out.mono ?_
 rintro e w1 ⟨en,rfl,hb1,hcase⟩
 have HN1:=Lib.hid (HN.out.keep hb1)
 have HW:=Lib.hid (HB1.out.trans (hb1.mono HB1.out.size))
 clear hb1 hl HC HN HB1
 rcases hcase with ⟨rfl,P,M,hr⟩|⟨hen,hg⟩
 ·have HR:=Lib.hid hr
  have c0:=HN1.out.c0
  have c1:=HN1.out.c1
  rw[hr.p] at c0
  rw[hr.m] at c1
  have h9:(bits .and .i64 ((P:Int) / 512) 1 == 1)=P.testBit 9:=bit_eq P 9 hr.pl
  cases h:P.testBit 9
  ·have H9:=Lib.hid h
   rw[h] at h9
   have hx:bits .andNot .i64 (P:Int) (M:Int)=((less P M:Nat):Int):=i64_andNot P M (by have:=hr.pl;omega) (by have:=hr.ml;omega)
   have HX:=Lib.hid (less_lt P M hr.pl)
   have hbits:Hid (∀k,(less P M).testBit k=(P.testBit k && !M.testBit k)):=Lib.hid (fun k=>less_bit P M k)
   generalize less P M=x at *
   clear hr h
   go_wp2_with fail
   go_loop [6] (fun i=>∃k:Nat,1≤k∧k≤16∧i=.int .i64 k∧Hid (∀j,1≤j→j<k→x.testBit j=false)) (fun i=>16-(intOf i).toNat)
   case atStart=>exact⟨1,by omega,by omega,rfl,fun j h1 h2=>absurd h2 (by omega)⟩
   case round=>
    obtain⟨k,k1,k2,rfl,HK⟩:=hrel
    by_cases hlt:k≤15
    ·have hb:=bit_eq x k HX.out
     have hki:(k:Int)≤15:=by omega
     have hk64:(k:Int)<64:=by omega
     have hk0:¬((k:Int)<0):=by omega
     have HKK:=Lib.hid (And.intro k1 hlt)
     clear hlt
     cases hq:x.testBit k
     ·have HQ:=Lib.hid hq
      rw[hq] at hb
      clear hq
      go_wp2
      go_round
      case rel=>
       refine⟨k+1,by omega,by omega,rfl,fun j h1 h2=>?_⟩
       rcases Nat.lt_succ_iff_lt_or_eq.1 h2 with q|rfl
       ·exact HK.out j h1 q
       ·exact HQ.out
      case measure=>simp[intOf];omega
     ·have HQ:=Lib.hid hq
      rw[hq] at hb
      clear hq
      go_wp2
      go_ret2
      have hbt:=hbits.out k
      rw[HQ.out] at hbt
      have hP:P.testBit k=true:=by revert hbt;cases P.testBit k <;> simp
      have hM:M.testBit k=false:=by revert hbt;cases M.testBit k <;> simp
      exact⟨k,0,rfl,HW.out,.inr ⟨P,M,HR.out,.inl ⟨rfl,k,rfl,HKK.out.1,HKK.out.2,hP,.inr hM,fun h=>by rw[H9.out] at h;cases h⟩⟩⟩
    ·obtain rfl:k=16:=by omega
     go_wp2
     go_ret2
     refine⟨0,4,rfl,HW.out,.inr ⟨P,M,HR.out,.inr ⟨rfl,H9.out,fun k h1 h2 h3=>?_⟩⟩⟩
     have hbt:=hbits.out k
     rw[HK.out k h1 (by omega),h3] at hbt
     revert hbt;cases M.testBit k <;> simp
  ·have H9:=Lib.hid h
   rw[h] at h9
   clear hr h
   go_wp2
   go_ret2
   exact⟨9,0,rfl,HW.out,.inr ⟨P,M,HR.out,.inl ⟨rfl,9,rfl,by decide,by decide,H9.out,.inl rfl,fun _=>rfl⟩⟩⟩
 ·have hen':=ne_zero hen
  have HE:=Lib.hid hen
  have HG:=Lib.hid hg
  clear hen hg
  go_wp2
  go_ret2
  exact⟨0,en,rfl,HW.out,.inl ⟨HE.out,HG.out⟩⟩
end Go.Proofs.YtfkepfncgdlgoaaGreatDoor.SigLaw
namespace Go.Proofs.YtfkepfncgdlgoaaGreatDoor.SigLaw
open Go.RowKit
attribute [local go_sem ↓] load58_eq store58_eq zero58 cells58
theorem results_cell4 {fn:Func} {p u x y:Tmp} {ty:TypeId}(h:fn.results=#[.cell p ty,.tmp u,.tmp x,.tmp y]) (tmps:Array Value) (P:Program) (w:World) :
  (results fn tmps).run P w=((asAddr (tmps.getD p undef)).run P w).andThen fun a w1=>((loadVar ty a).run P w1).andThen fun v w2=>.ok (.tuple #[v,tmps.getD u undef,tmps.getD x undef,tmps.getD y undef]) w2:=by
 unfold results
 rw[h]
 simp
def TakePost (g:G) (P M:Nat) (w:World) (e:Ending) (w':World):Prop:=
 Below w.heap.size w w'∧((∃v n hw,e=.returned (.tuple #[.agg (cellsA v),.int .i64 n,.int .i64 hw,.int .i64 4]))∨∃k:Nat,1≤k∧k≤15∧P.testBit k=true∧e=.returned (.tuple #[.agg (cellsA ⟨(less P (1 <<< k):Nat),g.m,g.h⟩),.int .i64 k,.int .i64 (g.h k),.int .i64 0]))
theorem take_is (g:G) (P M:Nat) (w:World)(hB:BB g)(hr:Right g P M):Calls Tryz.prog 34 #[.agg (cellsA g)] w (TakePost g P M w):=by
 have HC:=Lib.hid (next_is g ((w.alloc (.cells (cellsA g) 60)).alloc (.cells (cellsA zeroG) 60)) hB)
 have HT:=Lib.hid (two_new w g)
 have hl:=(two_new w g).R.load
 have HR:=Lib.hid hr
 clear hB hr
 go_enter Tryz.func34,Tryz.ntmps34
 go_wp2_with fail
 refine HC.out.mono ?_
 rintro e w1 ⟨n,en,rfl,hb1,hcase⟩
 have HT1:=Lib.hid (HT.out.keep hb1)
 clear hb1 hl HC HT
 have hcase2:en=4∨(en=0∧∃k:Nat,n=k∧1≤k∧k≤15∧P.testBit k=true):=by
  rcases hcase with ⟨_,h⟩|⟨P',M',hr',⟨h0,k,hk,k1,k2,hP,-,-⟩|⟨h4,-⟩⟩
  ·exact absurd ⟨P,M,HR.out⟩ h
  ·have:P'=P:=by have a:=hr'.p;have b:=HR.out.p;omega
   subst this
   exact .inr ⟨h0,k,hk,k1,k2,hP⟩
  ·exact .inl h4
 clear hcase
 rcases hcase2 with rfl|⟨rfl,k,rfl,k1,k2,hP⟩
 ·have hz:=fun g'=>HT1.out.Z.store g'
  go_wp2
  exact bodyPost_ret (v:=.tuple #[.agg (cellsA zeroG),.int .i64 0,.int .i64 0,.int .i64 4]) (by rw[results_cell4 rfl];simp[asAddr,Result.andThen,(HT1.out.store zeroG).Z.loadVar]) rfl ⟨(HT1.out.store zeroG).B,.inl ⟨zeroG,0,0,rfl⟩⟩
 ·have c0:=HT1.out.R.c0
  have f0:=HT1.out.R.fz 0
  have hgp:=HR.out.p
  have e1:bits .andNot .i64 g.p (wrap64 (2 ^ k))=((less P (1 <<< k):Nat):Int):=by
   rw[hgp,wrap_pow k2,show ((2:Int) ^ k)=((1 <<< k:Nat):Int) from by rw[Nat.one_shiftLeft];norm_cast]
   exact i64_andNot P (1 <<< k) (by have:=HR.out.pl;omega) (by have:=one_shift k (by omega);omega)
  obtain⟨g2,hg2⟩:∃g2:G,g2=⟨((less P (1 <<< k):Nat):Int),g.m,g.h⟩:=⟨_,rfl⟩
  have HT2:=Lib.hid (HT1.out.setP ((less P (1 <<< k):Nat):Int)).drew
  rw[← hg2] at HT2
  have HG2:=Lib.hid hg2
  have hgh:g2.h k=g.h k:=by rw[hg2]
  have HGH:=Lib.hid hgh
  have HP:=Lib.hid hP
  have HK:=Lib.hid (And.intro k1 k2)
  have hk16:(k:Int)<16:=by omega
  have hk0:0≤(k:Int):=by omega
  clear hg2 hgh hP k1 k2 hgp
  go_wp2_with fail
  go_region
  clear c0 f0
  revert HT2
  generalize hw2:World.drew _=w2
  intro HT2
  clear hw2
  have hl:=HT2.out.drew.R.load
  have hz:=HT2.out.drew.Z.store g2
  have nk:=HT2.out.drew.R.ch (k:=k) (by have:=HK.out;omega)
  rw[HGH.out] at nk
  have nk2:=(HT2.out.drew.store g2).R.ch (k:=k) (by have:=HK.out;omega)
  rw[HGH.out] at nk2
  go_wp2_with fail
  go_region
  go_wp2
  refine bodyPost_ret (v:=.tuple #[.agg (cellsA g2),.int .i64 k,.int .i64 (g.h k),.int .i64 0]) (by rw[results_cell4 rfl];simp[asAddr,Result.andThen,(HT2.out.drew.store g2).Z.loadVar]) rfl ⟨(HT2.out.drew.store g2).B,.inr ⟨k,HK.out.1,HK.out.2,HP.out,?_⟩⟩
  rw[← HG2.out]
end Go.Proofs.YtfkepfncgdlgoaaGreatDoor.SigLaw
namespace Go.Proofs.YtfkepfncgdlgoaaGreatDoor
open Go.RowKit
theorem ld_sig (v:Value):Instr.loadAt 60 v=ldR 60 v:=rfl
theorem st_sig (p v:Value):Instr.storeAt 60 p v=stR 60 p v:=rfl
theorem kz_sig:(List.range 18).map (fun j=>kz (65+j))=List.replicate 18 (.int .i64 0):=by kernel_rfl
section
variable {w:World} {K Pr:Nat} {c:Nat→Value}
theorem sig_right:SigLaw.Right SigLaw.zeroG 0 0:=by constructor <;> first|rfl|decide|(intro i hi;simp[SigLaw.zeroG])
end
end Go.Proofs.YtfkepfncgdlgoaaGreatDoor
namespace Go.Proofs.YtfkepfncgdlgoaaGreatDoor
open Go.RowKit
section
variable {w0 w:World} {Out:World→Array Value→World→Prop} {K Pr b0 b1 b2:Nat} {A:Array Value} {c:Nat→Value}
theorem ld_callR {w:World} {b:Nat}(hr:Row w b 38 A)(hA:A.size=7):(ldR 38 (.pointer (some ⟨b,0,none⟩))).run Tryz.prog w=.ok (.agg A) w:=hr.ld0 Tryz.underlying38 rfl (by rw[hA];kernel_rfl)
end
end Go.Proofs.YtfkepfncgdlgoaaGreatDoor
namespace Go.Proofs.YtfkepfncgdlgoaaGreatDoor
open Go.RowKit
theorem _root_.Go.Proofs.YtfkepfncgdlgoaaGreatDoor.ProcLaw.TabAt.upd {S:Nat→Prop} {w w':World} {b:Nat} {t:ProcLaw.T}(h:ProcLaw.TabAt w b t)(hu:Upd S w w')(hn:¬S b):ProcLaw.TabAt w' b t:=
 ⟨Nat.lt_of_lt_of_le h.lt hu.size,fun i=>(hu.frozen h.lt hn).trans (h.fz i),fun k hk=>(hu.cell h.lt hn).trans (h.st k hk),fun k hk=>(hu.cell h.lt hn).trans (h.par k hk),fun k hk=>(hu.cell h.lt hn).trans (h.gr k hk),fun k hk=>(hu.cell h.lt hn).trans (h.code k hk)⟩
theorem _root_.Go.Proofs.YtfkepfncgdlgoaaGreatDoor.OpenLaw.OTab.upd {S:Nat→Prop} {w w':World} {b:Nat} {fs:Nat→OpenLaw.F} {fd:Nat→Nat}(h:OpenLaw.OTab w b fs fd)(hu:Upd S w w')(hn:¬S b):OpenLaw.OTab w' b fs fd:=
 ⟨Nat.lt_of_lt_of_le h.lt hu.size,fun i=>(hu.frozen h.lt hn).trans (h.fz i),h.le,fun k hk=>(hu.cell h.lt hn).trans (h.c0 k hk),fun k hk=>(hu.cell h.lt hn).trans (h.c1 k hk),fun k hk=>(hu.cell h.lt hn).trans (h.c2 k hk),fun k hk=>(hu.cell h.lt hn).trans (h.c3 k hk),fun k hk=>(hu.cell h.lt hn).trans (h.c4 k hk),fun k hk=>(hu.cell h.lt hn).trans (h.c5 k hk),fun p j hp hj=>(hu.cell h.lt hn).trans (h.d p j hp hj)⟩
theorem kb_upd {b:Nat} {w w':World}(h:OpenLaw.KB b w w') {S:Nat→Prop}(hS:S b):Upd S w w':=Upd.grown h hS
theorem bd_ans (ps:Array (Nat×Value)):Instr.build 35 ps=bdR 35 ps:=rfl
theorem bd_thing (ps:Array (Nat×Value)):Instr.build 160 ps=bdR 160 ps:=rfl
theorem bd_fail (w:World) (e:Int):(bdR 35 #[(0,.int .i64 e)]).run Tryz.prog w=.ok (.agg (ansV e 0 0 (.slice none 0 0))) w:=by kernel_rfl
attribute [local go_sem ↓] bd_ans bd_thing ld_ans st_ans
theorem fail_is (w:World) (e:Int):Calls Tryz.prog 14 #[.int .i64 e] w fun r w'=>r=.returned (.agg (ansV e 0 0 (.slice none 0 0)))∧Below w.heap.size w w':=by
 have hbd:=fun w=>bd_fail w e
 have hz:ansZ=#[.int .i64 0,.int .i64 0,.int .i64 0,.slice none 0 0,.slice none 0 0,.int .i64 0,.int .i64 0,.int .i64 0,.int .i64 0,.int .i64 0,.int .i64 0]:=rfl
 have hr:=row_new w 35 ansZ
 have hst:=ans_st hr (X:=ansV e 0 0 (.slice none 0 0)) rfl (ansV_one _ _ _ rfl)
 have HLD:=Lib.hid (ans_ldV hr (X:=ansV e 0 0 (.slice none 0 0)) rfl)
 have HB:Hid (Below w.heap.size w ((w.alloc (.cells ansZ 35)).setRow w.heap.size (ansV e 0 0 (.slice none 0 0)))):=Lib.hid ((Upd.alloc (S:=fun k=>k=w.heap.size) w (.cells ansZ 35)).trans (Upd.setRow _ _ rfl) |>.toBelow (Nat.le_refl _) (fun k hk e=>by omega))
 rw[hz] at hst HLD HB
 clear hr hz
 generalize ansV e 0 0 (.slice none 0 0)=X at *
 go_enter Tryz.func14,Tryz.ntmps14
 go_wp2
 exact bodyPost_ret (v:=.agg X) (by rw[results_cell1 rfl];simp[asAddr,Result.andThen,HLD.out]) rfl ⟨rfl,HB.out⟩
end Go.Proofs.YtfkepfncgdlgoaaGreatDoor
namespace Go.Proofs.YtfkepfncgdlgoaaGreatDoor
open Go.RowKit
structure KC where
 K:Nat
 Wh:Nat
 Fi:Nat
 Pr:Nat
 R:Nat
 M:Nat
 so:Nat
structure KSt where
 tag:Nat→Nat
 c:Nat→Value
 t:ProcLaw.T
 fs:Nat→OpenLaw.F
 fd:Nat→Nat
 ad:Option Addr
 cap:Nat
 l:List Tk
 m:MS
 cw:Nat→Option Nat
structure KT (w:World) (k:KC) (s:KSt):Prop where
 kr:KR w k.K s.c
 c1:s.c 1=.pointer (some ⟨k.M,0,none⟩)
 c4:s.c 4=.pointer (some ⟨k.R,0,none⟩)
 c5:s.c 5=.pointer (some ⟨k.Wh,0,none⟩)
 c6:s.c 6=.pointer (some ⟨k.Fi,0,none⟩)
 c7:s.c 7=.pointer (some ⟨k.Pr,0,none⟩)
 wh:Row w k.Wh 158 #[.int .u32 0,.slice none 0 0]
 fi:OpenLaw.OTab w k.Fi s.fs s.fd
 pr:ProcLaw.TabAt w k.Pr s.t
 ru:RunG w k.R s.ad s.cap 1 0 (onePin 1) s.l
 me:∃z:Int,MemG w k.M k.so z z s.m
 cw:∀p b,s.cw p=some b→(∃cp,s.c (8+p*38+17)=.slice (some ⟨b,0,none⟩) 1 cp)∧w.cell? ⟨b,0,none⟩=some (.int .i64 1)∧b<w.heap.size∧s.tag b=7
 tK:s.tag k.K=1
 tWh:s.tag k.Wh=2
 tFi:s.tag k.Fi=3
 tPr:s.tag k.Pr=4
 tR:∀j,rS k.R s.ad j→s.tag j=5
 tM:∀j,mB k.M k.so s.m j→s.tag j=6
 tz:∀j,w.heap.size≤j→s.tag j=0
def FarT (tag0:Nat→Nat) (B:Nat) (tag:Nat→Nat):Prop:=∀j,tag j≠0→tag0 j≠0∨B≤j
section
variable {w w':World} {k:KC} {s:KSt}
theorem KT.lt (h:KT w k s) {j:Nat}(hj:s.tag j≠0):j<w.heap.size:=by
 rcases Nat.lt_or_ge j w.heap.size with q|q
 ·exact q
 ·exact absurd (h.tz j q) hj
theorem KT.upd {S:Nat→Prop}(h:KT w k s)(hu:Upd S w w')(hn:∀j,s.tag j≠0→¬S j):KT w' k s:=by
 have n:∀ {j i},s.tag j=i→i≠0→¬S j:=fun e hi=>hn _ (by rw[e];exact hi)
 exact⟨h.kr.upd hu (n h.tK (by decide)),h.c1,h.c4,h.c5,h.c6,h.c7,h.wh.upd hu (n h.tWh (by decide)),h.fi.upd hu (n h.tFi (by decide)),h.pr.upd hu (n h.tPr (by decide)),h.ru.upd hu (n (h.tR _ (.inl rfl)) (by decide)) (fun a e=>n (h.tR _ (.inr ⟨a,e,rfl⟩)) (by decide)),(h.me.imp fun _ q=>q.upd hu (fun j hj=>n (h.tM j hj) (by decide))),fun p b hb=>by
    obtain⟨h1,h2,h3,h4⟩:=h.cw p b hb
    exact⟨h1,(hu.cell h3 (n h4 (by decide))).trans h2,Nat.lt_of_lt_of_le h3 hu.size,h4⟩,h.tK,h.tWh,h.tFi,h.tPr,h.tR,h.tM,fun j hj=>h.tz j (Nat.le_trans hu.size hj)⟩
theorem KT.keep (h:KT w k s)(hb:Below w.heap.size w w'):KT w' k s:=h.upd (S:=fun _=>False) (Upd.below hb) (fun _ _ e=>e)
theorem KT.files {fs':Nat→OpenLaw.F} {fd':Nat→Nat}(h:KT w k s)(hf:OpenLaw.OTab w' k.Fi fs' fd')(hu:Upd (fun j=>j=k.Fi) w w'):KT w' k { s with fs:=fs',fd:=fd' }:=by
 have n:∀ {j i},s.tag j=i→i≠3→¬j=k.Fi:=fun e hi q=>hi (e.symm.trans (q ▸ h.tFi))
 exact⟨h.kr.upd hu (n h.tK (by decide)),h.c1,h.c4,h.c5,h.c6,h.c7,h.wh.upd hu (n h.tWh (by decide)),hf,h.pr.upd hu (n h.tPr (by decide)),h.ru.upd hu (n (h.tR _ (.inl rfl)) (by decide)) (fun a e=>n (h.tR _ (.inr ⟨a,e,rfl⟩)) (by decide)),(h.me.imp fun _ q=>q.upd hu (fun j hj=>n (h.tM j hj) (by decide))),fun p b hb=>by
    obtain⟨h1,h2,h3,h4⟩:=h.cw p b hb
    exact⟨h1,(hu.cell h3 (n h4 (by decide))).trans h2,Nat.lt_of_lt_of_le h3 hu.size,h4⟩,h.tK,h.tWh,h.tFi,h.tPr,h.tR,h.tM,fun j hj=>h.tz j (Nat.le_trans hu.size hj)⟩
end
end Go.Proofs.YtfkepfncgdlgoaaGreatDoor
namespace Go.Proofs.YtfkepfncgdlgoaaGreatDoor
open Go.RowKit
structure Awake (s:KSt) (p:Nat):Prop where
 p1:1≤p
 p16:p≤16
 lv:(s.t p).st=1
 sl:s.c (8+p*38+37)=.bool false
 sg:∀j,j<18→s.c (8+p*38+19+j)=.int .i64 0
section
variable {w w0:World} {k:KC} {s:KSt} {p:Nat}
theorem sig_cellsP {c:Nat→Value} {o:Nat}(ho:o+18≤655)(h:∀j,j<18→c (o+j)=.int .i64 0):(kerA c).extract o (o+18)=SigLaw.cellsA SigLaw.zeroG:=by
 apply Array.ext
 ·simp[kerA_size];rw[Nat.min_eq_left ho];simp;rfl
 ·intro i h1 h2
  have hi:i<18:=by simp[kerA_size] at h1;omega
  simp only[Array.getElem_extract,kerA,Array.getElem_ofFn]
  rw[h i hi]
  have:i=0∨i=1∨i=2∨i=3∨i=4∨i=5∨i=6∨i=7∨i=8∨i=9∨i=10∨i=11∨i=12∨i=13∨i=14∨i=15∨i=16∨i=17:=by omega
  rcases this with rfl|rfl|rfl|rfl|rfl|rfl|rfl|rfl|rfl|rfl|rfl|rfl|rfl|rfl|rfl|rfl|rfl|rfl <;> rfl
theorem livingP_is (h:KT w k s)(h1:1≤p)(h16:p≤16)(hl:(s.t p).st=1):Calls Tryz.prog 13 #[.pointer (some ⟨k.K,0,none⟩),.int .i64 p] w fun e w'=>e=.returned (.int .i64 0)∧w=w':=by
 have q7:w.cell? ⟨k.K,7,none⟩=some (.pointer (some ⟨k.Pr,0,none⟩)):=by rw[h.kr.cell (by decide),h.c7]
 have HS:=Lib.hid (ProcLaw.state_is (k:=p) h.pr h1 h16)
 rw[hl] at HS
 clear h hl
 go_enter Tryz.func13,Tryz.ntmps13
 go_wp2_with (go_at_call 33;refine HS.out.mono ?_;rintro e1 w1 ⟨rfl,rfl⟩)
 go_ret
 exact⟨rfl,rfl⟩
attribute [local go_sem ↓] ld_sig st_sig
theorem KT.ldsig (h:KT w k s)(hp:p≤16)(hg:∀j,j<18→s.c (8+p*38+19+j)=.int .i64 0):(ldR 60 (.pointer (some ⟨k.K,8+p*38+19,none⟩))).run Tryz.prog w=.ok (.agg (SigLaw.cellsA SigLaw.zeroG)) w:=by
 rw[Row.ld h.kr (o:=8+p*38+19) (n:=18) (by rw[kerA_size];omega) Tryz.underlying60 rfl (by kernel_rfl),sig_cellsP (by omega) hg]
theorem betweenP_is (h:KT w k s)(ha:Awake s p):Calls Tryz.prog 15 #[.pointer (some ⟨k.K,0,none⟩),.int .i64 p] w fun e w'=>e=.returned (.tuple #[.int .i64 0,.bool false])∧Below w.heap.size w w':=by
 have l1:=h.ldsig ha.p16 ha.sg
 have i0:(p:Int)<17:=by have:=ha.p16;omega
 have HT:=Lib.hid (SigLaw.take_is SigLaw.zeroG 0 0 w ⟨⟨by decide,by decide⟩,by decide,by decide⟩ sig_right)
 have HST:=Lib.hid (fun (w:World) (g:SigLaw.G)=>st0_new w (T:=60) (c:=#[.int .i64 0,.int .i64 0,.int .i64 0,.int .i64 0,.int .i64 0,.int .i64 0,.int .i64 0,.int .i64 0,.int .i64 0,.int .i64 0,.int .i64 0,.int .i64 0,.int .i64 0,.int .i64 0,.int .i64 0,.int .i64 0,.int .i64 0,.int .i64 0]) (cs:=SigLaw.cellsA g) rfl (by kernel_rfl) (SigLaw.cellsA_one g))
 clear h ha
 generalize SigLaw.cellsA SigLaw.zeroG=ZG at *
 go_enter Tryz.func15,Tryz.ntmps15
 go_wp2_with (go_at_call 34;refine HT.out.mono ?_;rintro e1 w1 ⟨hb1,h1⟩;(rcases h1 with ⟨g1,n1,h1,rfl⟩|⟨k,_,_,hk,_⟩;rotate_left;exact absurd hk (by simp));have st1:=HST.out w1 g1;have HB1:=Lib.hid (hb1.trans ((Go.Joins.below_alloc1 w1 (.cells (SigLaw.cellsA g1) 60)).mono hb1.size));clear hb1;generalize SigLaw.cellsA g1=C1 at *)
 go_ret2
 exact⟨rfl,HB1.out⟩
end
section
variable {w0 w:World} {Out:World→Array Value→World→Prop} {k:KC} {s:KSt} {p b0 b1 b2:Nat} {A:Array Value}
attribute [local go_sem ↓] ld_ans st_ans ld_call
theorem ask1P_is {K:Nat} {q:Int} (ok:OutOk w0 Out)(h0:Below w0.heap.size w0 w) (c0:w.cell? ⟨b0,0,none⟩=some (.pointer (some ⟨K,0,none⟩))) (c1:w.cell? ⟨b1,0,none⟩=some (.int .i64 q))(hr:Row w b2 38 A)(hA:A.size=7)(hs:Spec w0 Out 18 #[.pointer (some ⟨K,0,none⟩),.int .i64 q,.agg A]) :
  Calls Tryz.prog 17 #[.pointer (some ⟨b0,0,none⟩),.pointer (some ⟨b1,0,none⟩),.pointer (some ⟨b2,0,none⟩)] w (Res w0 Out w):=by
 have hal:=Go.Joins.below_alloc1 w (.cells ansZ 35)
 have d0:(w.alloc (.cells ansZ 35)).cell? ⟨b0,0,none⟩=some (.pointer (some ⟨K,0,none⟩)):=(hal.cell (p:=⟨b0,0,none⟩) (World.block_lt_of_cell? w _ c0)).trans c0
 have d1:(w.alloc (.cells ansZ 35)).cell? ⟨b1,0,none⟩=some (.int .i64 q):=(hal.cell (p:=⟨b1,0,none⟩) (World.block_lt_of_cell? w _ c1)).trans c1
 have l2:=ld_callR (hr.keep hal) hA
 have HR:=Lib.hid (row_new w 35 ansZ)
 have HB:=Lib.hid hal
 have HC:=Lib.hid (hs _ (h0.trans (hal.mono h0.size)))
 have HOK:=Lib.hid ok
 have H0:=Lib.hid h0
 clear hal hr hA hs ok h0 c0 c1
 have hz:ansZ=#[.int .i64 0,.int .i64 0,.int .i64 0,.slice none 0 0,.slice none 0 0,.int .i64 0,.int .i64 0,.int .i64 0,.int .i64 0,.int .i64 0,.int .i64 0]:=rfl
 rw[hz] at d0 d1 l2 HB HC
 go_enter Tryz.func17,Tryz.ntmps17
 go_wp2_with (go_at_call 18;refine HC.out.mono ?_;rintro e2 w2 ⟨X,rfl,hX,hone,hu,ho⟩;have hr:=ans_row H0.out HR.out (Nat.le_refl _) hu;have hst:=ans_st hr hX hone;have HLD:=Lib.hid (ans_ldV hr hX);have HP:=Lib.hid (HOK.out.put (C:=X) H0.out HB.out hu ho (Nat.le_refl _) HR.out.lt);have HX:=Lib.hid (And.intro hX hone);clear hr hX hone hu ho;generalize w2.setRow w.heap.size X=w3 at *)
 exact bodyPost_ret (v:=.agg X) (by rw[results_cell1 rfl];simp[asAddr,Result.andThen,HLD.out]) rfl ⟨X,rfl,HX.out.1,HX.out.2,HP.out.1,HP.out.2⟩
theorem askP_is (ok:OutOk w0 Out)(h0:Below w0.heap.size w0 w)(hk:KT w k s)(haw:Awake s p)(hA:A.size=7)(hs:Spec w0 Out 18 #[.pointer (some ⟨k.K,0,none⟩),.int .i64 p,.agg A]) :
  Calls Tryz.prog 7 #[.pointer (some ⟨k.K,0,none⟩),.int .i64 p,.agg A] w (Res w0 Out w):=by
 have hmf:∀(fn:Fn) (first cap:Array Value) (w:World),(Instr.makeFunc fn first cap).run Tryz.prog w=.ok (.func fn first cap) w:=fun _ _ _ _=>rfl
 have ha:∀(w:World) (o1 o2 o3 o4:Obj),Below w.heap.size w ((((w.alloc o1).alloc o2).alloc o3).alloc o4)∧((((w.alloc o1).alloc o2).alloc o3).alloc o4).heap[w.heap.size]?=some o1∧((((w.alloc o1).alloc o2).alloc o3).alloc o4).heap[w.heap.size+1]?=some o2∧((((w.alloc o1).alloc o2).alloc o3).alloc o4).heap[w.heap.size+1+1]?=some o3∧((((w.alloc o1).alloc o2).alloc o3).alloc o4).heap[w.heap.size+1+1+1]?=some o4:=fun w o1 o2 o3 o4=>by
  have s1:=size_alloc1 w o1
  have s2:=size_alloc1 (w.alloc o1) o2
  have s3:=size_alloc1 ((w.alloc o1).alloc o2) o3
  refine⟨(((Below.refl _ _).alloc (Nat.le_refl _) _).alloc (by omega) _).alloc (by omega) _ |>.alloc (by omega) _,?_,?_,?_,?_⟩
  ·rw[heap_alloc_old _ _ (by omega),heap_alloc_old _ _ (by omega),heap_alloc_old _ _ (by omega)];exact heap_alloc_new _ _
  ·rw[heap_alloc_old _ _ (by omega),heap_alloc_old _ _ (by omega),← s1];exact heap_alloc_new _ _
  ·rw[heap_alloc_old _ _ (by omega),show w.heap.size+1+1=((w.alloc o1).alloc o2).heap.size by omega];exact heap_alloc_new _ _
  ·rw[show w.heap.size+1+1+1=(((w.alloc o1).alloc o2).alloc o3).heap.size by omega];exact heap_alloc_new _ _
 obtain⟨a0,a1,a2,a3,a4⟩:=ha w (.cells #[.pointer (some ⟨k.K,0,none⟩)] 24) (.cells #[.int .i64 p] 3) (.cells A 38) (.cells #[.int .i64 0,.int .i64 0,.int .i64 0,.slice none 0 0,.slice none 0 0,.int .i64 0,.int .i64 0,.int .i64 0,.int .i64 0,.int .i64 0,.int .i64 0] 35)
 have HA0:=Lib.hid a0
 have hq1:=hk.keep a0
 have HQ1:=Lib.hid hq1
 have q83:(((((w.alloc (.cells #[.pointer (some ⟨k.K,0,none⟩)] 24)).alloc (.cells #[.int .i64 p] 3)).alloc (.cells A 38)).alloc (.cells #[.int .i64 0,.int .i64 0,.int .i64 0,.slice none 0 0,.slice none 0 0,.int .i64 0,.int .i64 0,.int .i64 0,.int .i64 0,.int .i64 0,.int .i64 0] 35))).cell? ⟨k.K,8+p*38+37,none⟩=some (.bool false):=by rw[hq1.kr.cell (by have:=haw.p16;omega),haw.sl]
 have HR1:=Lib.hid a1
 have HR2:=Lib.hid a2
 have HR3:=Lib.hid a3
 have HR4:=Lib.hid a4
 have p0:=cell_of_row _ w.heap.size 0 _ _ (0,0) a1
 have p1:=cell_of_row _ (w.heap.size+1) 0 _ _ (0,0) a2
 rw[show (#[Value.pointer (some ⟨k.K,0,none⟩)]:Array Value)[0]?=some (.pointer (some ⟨k.K,0,none⟩)) from rfl] at p0
 rw[show (#[Value.int .i64 (p:Int)]:Array Value)[0]?=some (.int .i64 p) from rfl] at p1
 have HOK:=Lib.hid ok
 have H0:=Lib.hid h0
 have HS:=Lib.hid hs
 have HAS:=Lib.hid hA
 have HAW:=Lib.hid haw
 have i17:(p:Int)<17:=by have:=haw.p16;omega
 clear ha a0 a1 a2 a3 a4 hk hq1 ok h0 hs hA haw
 go_enter Tryz.func7,Tryz.ntmps7
 go_upto_region 1 with fail
 generalize (((((w.alloc (.cells #[.pointer (some ⟨k.K,0,none⟩)] 24)).alloc (.cells #[.int .i64 p] 3)).alloc (.cells A 38)).alloc (.cells #[.int .i64 0,.int .i64 0,.int .i64 0,.slice none 0 0,.slice none 0 0,.int .i64 0,.int .i64 0,.int .i64 0,.int .i64 0,.int .i64 0,.int .i64 0] 35)))=w1 at *
 have HLV:=Lib.hid (livingP_is HQ1.out HAW.out.p1 HAW.out.p16 HAW.out.lv)
 go_upto_region 4 with (go_at_call 13;refine HLV.out.mono ?_;rintro e2 w2 ⟨rfl,rfl⟩)
 go_region
 have HBT:=Lib.hid (betweenP_is (HQ1.out.keep (Below.refl _ _).drew) HAW.out)
 go_upto_region 7 with (go_at_call 15;refine HBT.out.mono ?_;rintro e3 w3 ⟨rfl,hb3⟩)
 have hb13:Below w1.heap.size w1 w3:=(Below.refl _ _).drew.trans hb3
 have hr4:Row w3 (w.heap.size+1+1+1) 35 ansZ:=Row.keep (c:=ansZ) HR4.out hb13
 have HR:=Lib.hid hr4
 have HB:=Lib.hid (HA0.out.trans (hb13.mono HA0.out.size))
 have hp0:=fun (w4:World) (hb:Below w3.heap.size w3 w4)=>((hb13.trans (hb.mono hb13.size)).cell (p:=⟨w.heap.size,0,none⟩) (World.block_lt_of_cell? w1 _ p0)).trans p0
 have hp1:=fun (w4:World) (hb:Below w3.heap.size w3 w4)=>((hb13.trans (hb.mono hb13.size)).cell (p:=⟨w.heap.size+1,0,none⟩) (World.block_lt_of_cell? w1 _ p1)).trans p1
 have hrc:∀w4,Below w3.heap.size w3 w4→Row w4 (w.heap.size+1+1) 38 A:=fun w4 hb=>Row.keep (c:=A) HR3.out (hb13.trans (hb.mono hb13.size))
 have HC:=Lib.hid (catch_is HOK.out (H0.out.trans (HB.out.mono H0.out.size)) (fun w4 hb4=>ask1P_is HOK.out (H0.out.trans ((HB.out.trans (hb4.mono HB.out.size)).mono H0.out.size)) (hp0 w4 hb4) (hp1 w4 hb4) (hrc w4 hb4) HAS.out HS.out))
 clear hb13 hr4 hp0 hp1 hrc hb3 p0 p1 q83 HBT HLV HR1 HR2 HR3 HR4 HQ1 HA0
 go_wp2_with (go_at_call 16;refine HC.out.mono ?_;rintro e5 w5 ⟨X,rfl,hX,hone,hu,ho⟩;have hr:=ans_row H0.out HR.out (by omega) hu;have hst:=ans_st hr hX hone;have HLD:=Lib.hid (ans_ldV hr hX);have HP:=Lib.hid (HOK.out.put (C:=X) H0.out HB.out hu ho (by omega) HR.out.lt);have HX:=Lib.hid (And.intro hX hone);clear hr hX hone hu ho;generalize w5.setRow (w.heap.size+1+1+1) X=w6 at *)
 exact bodyPost_ret (v:=.agg X) (by rw[results_cell1 rfl];simp[asAddr,Result.andThen,HLD.out]) rfl ⟨X,rfl,HX.out.1,HX.out.2,HP.out.1,HP.out.2⟩
end
end Go.Proofs.YtfkepfncgdlgoaaGreatDoor
namespace Go.Proofs.YtfkepfncgdlgoaaGreatDoor
open Go.RowKit
def mS0 (sp:Nat):MS:=⟨.slice none 0 0,[],1,fun s=>if s=1 then some sp else none,fun _=>0,fun _ _=>none,fun _ _=>0,fun _=>0,fun _=>false⟩
def sS0 (c:Nat→Value) (tag:Nat→Nat) (T cc sp wb:Nat):KSt:=⟨tag,c,ProcLaw.start,fun _=>OpenLaw.f0,fun _=>0,some ⟨T,0,none⟩,cc,[⟨1,0,true,0⟩],mS0 sp,fun p=>if p=1 then some wb else none⟩
theorem mem0 {w:World} {M so sp:Nat} (mm:∃z:Int,Row w M 179 #[.int .i64 z,.int .i64 z,.int .i64 0,.slice none 0 0,.map (some so)]) (om:OMap w so 1 (fun k=>if k=1 then some sp else none)) (im:IMap w sp 0 (fun _=>none))(h1:so<M)(h2:M<sp):∃z:Int,MemG w M so z z (mS0 sp):=by
 obtain⟨z,mm⟩:=mm
 refine⟨z,mm.cell 0,mm.cell 1,⟨0,mm.cell 2⟩,mm.cell 3,mm.cell 4,mm.fz,mm.lt,World.ownsRow_nil _ _ _ _,om,fun s b hs=>?_,fun g hg=>(by cases hg),by omega,fun b hb=>(by cases hb),fun s b hs=>?_,fun g hg=>(by cases hg),fun s s' b hs hs'=>?_,List.nodup_nil⟩
 ·simp only[mS0] at hs ⊢
  split at hs
  ·injection hs with hs;subst hs;exact im
  ·cases hs
 ·simp only[mS0] at hs ⊢
  split at hs
  ·injection hs with hs;subst hs;exact⟨by omega,by omega,fun e=>by cases e⟩
  ·cases hs
 ·simp only[mS0] at hs hs'
  split at hs
  ·split at hs'
   ·omega
   ·cases hs'
  ·cases hs
end Go.Proofs.YtfkepfncgdlgoaaGreatDoor
namespace Go.Proofs.YtfkepfncgdlgoaaGreatDoor
open Go.RowKit Go.Maps
structure MCode (ι:Type) where
 enc:Option ι→Value
 dat:Option ι→DataW Unit
 d0:dat none=.nil
 ei:∀x y,enc x=enc y→x=y
 di:∀x y,dat x=dat y→x=y
section
variable {ι:Type} (c:MCode ι)
open Classical in
noncomputable def MCode.red (v:Value):Option (DataW Unit×List MemPlace):=if h:∃x,v=c.enc x then some (c.dat h.choose,[]) else none
theorem MCode.red_enc (x:Option ι):c.red (c.enc x)=some (c.dat x,[]):=by
 unfold MCode.red
 have h:∃y,c.enc x=c.enc y:=⟨x,rfl⟩
 rw[dif_pos h,← c.ei _ _ h.choose_spec]
theorem MCode.red_inv {v:Value} {x:Option ι} {ps:List MemPlace}(h:c.red v=some (c.dat x,ps)):v=c.enc x:=by
 unfold MCode.red at h
 split at h
 ·rename_i h'
  simp only[Option.some.injEq,Prod.mk.injEq] at h
  rw[← c.di _ _ h.1];exact h'.choose_spec
 ·cases h
theorem MCode.red_some {v:Value} {y:DataW Unit×List MemPlace}(h:c.red v=some y):∃x,v=c.enc x:=by
 unfold MCode.red at h
 split at h
 ·assumption
 ·cases h
def CMap (w:World) (b n:Nat) (f:Int→Option ι):Prop:=
 ∃D:DataW Unit,w.ownsMap Tryz.prog 3 c.red b n D∧IsMap D∧∀k,D.atKey (.int .i64 k) .nil=c.dat (f k)∧Maps.has D (.int .i64 k)=(f k).isSome
end
section
variable {ι:Type} {c:MCode ι} {w w':World} {b n:Nat} {f:Int→Option ι} {T e:TypeId}
theorem CMap.lt (h:CMap c w b n f):b<w.heap.size:=by
 obtain⟨D,hD,_⟩:=h
 exact hD.lt
theorem CMap.made (w:World):CMap c (w.alloc (.map #[] 0)) w.heap.size 0 (fun _=>none):=
 ⟨_,World.ownsMap_made w _ _ _,isMap_empty,fun k=>⟨c.d0.symm,rfl⟩⟩
theorem CMap.kept {row:Option Nat}(h:CMap c w b n f)(hg:w.grownBy w' row)(hne:some b≠row):CMap c w' b n f:=by
 obtain⟨D,hD,hm,hf⟩:=h
 exact⟨D,hD.kept hg hne,hm,hf⟩
theorem CMap.upd {S:Nat→Prop}(h:CMap c w b n f)(hu:Upd S w w')(hn:¬S b):CMap c w' b n f:=by
 obtain⟨D,hD,hm,hf⟩:=h
 obtain⟨es,ck,hb,hrest⟩:=hD
 exact⟨D,⟨es,ck,(hu.block b (Array.getElem?_eq_some_iff.1 hb).1 hn).trans hb,hrest⟩,hm,hf⟩
theorem CMap.keep (h:CMap c w b n f)(hb:Below w.heap.size w w'):CMap c w' b n f:=h.upd (S:=fun _=>False) (Upd.below hb) (fun e=>e)
theorem CMap.mono {n':Nat}(h:CMap c w b n f)(hn:n≤n'):CMap c w b n' f:=by
 obtain⟨D,hD,hm,hf⟩:=h
 exact⟨D,hD.mono hn,hm,hf⟩
theorem CMap.look_ok (h:CMap c w b n f)(ht:Tryz.prog.underlying T=some (.map 3 e))(hz:(zeroValue e).run Tryz.prog w=.ok (c.enc none) w) {k:Int}(hk:(Lit.int .i64 k).wf=true):(Instr.lookup T (.map (some b)) (.int .i64 k) true).run Tryz.prog w=.ok (.tuple #[c.enc (f k),.bool (f k).isSome]) w:=by
 obtain⟨D,hD,hm,hf⟩:=h
 obtain⟨v,ps,hr,hv⟩:=hD.look_ok keyed3 ht hz (c.red_enc none) (keyOf_int_mk Tryz.underlying3 hk)
 rw[c.d0,(hf k).1] at hv
 rw[hr,c.red_inv hv,(hf k).2]
theorem CMap.look (h:CMap c w b n f)(ht:Tryz.prog.underlying T=some (.map 3 e))(hz:(zeroValue e).run Tryz.prog w=.ok (c.enc none) w) {k:Int}(hk:(Lit.int .i64 k).wf=true):(Instr.lookup T (.map (some b)) (.int .i64 k) false).run Tryz.prog w=.ok (c.enc (f k)) w:=by
 obtain⟨D,hD,hm,hf⟩:=h
 obtain⟨v,ps,hr,hv⟩:=hD.lookup keyed3 ht hz (c.red_enc none) (keyOf_int_mk Tryz.underlying3 hk)
 rw[c.d0,(hf k).1] at hv
 rw[hr,c.red_inv hv]
theorem CMap.put (h:CMap c w b n f)(ht:Tryz.prog.underlying T=some (.map 3 e)) {k:Int}(hk:(Lit.int .i64 k).wf=true)(hn:n<maxLen) (x:ι):∃w',(Instr.mapUpdate T (.map (some b)) (.int .i64 k) (c.enc (some x))).run Tryz.prog w=.ok () w'∧CMap c w' b (n+1) (fun j=>if j=k then some x else f j)∧w.grownBy w' (some b):=by
 obtain⟨D,hD,hm,hf⟩:=h
 obtain⟨w',hr,ho,hg⟩:=hD.update keyed3 ht hn (keyOf_int_mk Tryz.underlying3 hk) (c.red_enc (some x))
 refine⟨w',hr,⟨_,ho,hm.put _ _,fun j=>?_⟩,hg⟩
 by_cases hj:j=k
 ·subst hj
  exact⟨(atKey_put_same hm (ikey _) _ _).trans (by simp),(has_put_same hm (ikey _) _).trans (by simp)⟩
 ·dsimp only
  rw[if_neg hj]
  exact⟨(atKey_put_other (lit_ne hj) _ _).trans (hf j).1,(has_put_other (lit_ne hj) _).trans (hf j).2⟩
theorem CMap.len (h:CMap c w b n f)(ht:Tryz.prog.underlying T=some (.map 3 e)) (ty:TypeId):∃k:Nat,k≤n∧(Builtin.len_ #[T] ty #[.map (some b)]).run Tryz.prog w=.ok (.int .i64 k) w:=by
 obtain⟨D,hD,hm,hf⟩:=h
 exact⟨_,hD.size_le,hD.len ht ty⟩
end
abbrev SL:=Nat×Nat×Nat×Nat
def encS:Option SL→Value
 | none=>.slice none 0 0
 | some (b,o,n,c)=>.slice (some ⟨b,o,none⟩) n c
def datS:Option SL→DataW Unit
 | none=>.nil
 | some (b,o,n,c)=>.agg [.lit (.int .i64 b),.lit (.int .i64 o),.lit (.int .i64 n),.lit (.int .i64 c)]
def cS:MCode SL where
 enc:=encS
 dat:=datS
 d0:=rfl
 ei:=fun x y h=>by
  cases x with
  | none=>cases y with
   | none=>rfl
   | some y=>obtain⟨a,b,c,d⟩:=y;simp[encS] at h
  | some x=>obtain⟨a,b,c,d⟩:=x;cases y with
   | none=>simp[encS] at h
   | some y=>obtain⟨a',b',c',d'⟩:=y;simp[encS] at h;obtain⟨⟨h1,h2⟩,h3,h4⟩:=h;rw[h1,h2,h3,h4]
 di:=fun x y h=>by
  cases x with
  | none=>cases y with
   | none=>rfl
   | some y=>obtain⟨a,b,c,d⟩:=y;simp[datS] at h
  | some x=>obtain⟨a,b,c,d⟩:=x;cases y with
   | none=>simp[datS] at h
   | some y=>obtain⟨a',b',c',d'⟩:=y;simp[datS] at h;obtain⟨h1,h2,h3,h4⟩:=h;congr <;> omega
def encT:Option Unit→Value
 | none=>.bool false
 | some _=>.bool true
def datT:Option Unit→DataW Unit
 | none=>.nil
 | some _=>.agg []
def cT:MCode Unit where
 enc:=encT
 dat:=datT
 d0:=rfl
 ei:=fun x y h=>by cases x <;> cases y <;> simp[encT] at h ⊢
 di:=fun x y h=>by cases x <;> cases y <;> simp[datT] at h ⊢
theorem zeroS (w:World):(zeroValue 22).run Tryz.prog w=.ok (encS none) w:=by kernel_rfl
theorem zeroT (w:World):(zeroValue 4).run Tryz.prog w=.ok (encT none) w:=by kernel_rfl
end Go.Proofs.YtfkepfncgdlgoaaGreatDoor
