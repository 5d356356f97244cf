/- Sets of sectors: Has, Join, Taken, First, Shared. The file system, and a call that changes it, as they lie in memory: what holds, and what keeps it. No walk here. -/
import Derived.Test.YtfkepfncgdlgoaaGreatDoorSnapU
import Derived.Test.YtfkepfncgdlgoaaGreatDoorDisk2
import Derived.BigQuiet
import Derived.IntWalk
import Derived.StillTailTactics
import Derived.Test.YtfkepfncgdlgoaaGreatDoorFsA
import Derived.Test.YtfkepfncgdlgoaaGreatDoorFmtP
namespace Go.Proofs.YtfkepfncgdlgoaaGreatDoor
open Go.RowKit
open Go.RowKit Go.Maps
set_option linter.unusedVariables false
set_option linter.unusedSimpArgs false
set_option maxRecDepth 100000
set_option maxHeartbeats 400000
def hasB (h:Nat→Nat) (n:Nat):Bool:=decide (h (n / 8) / 2 ^ (n % 8) % 2=1)
theorem u8_and (a b:Nat)(ha:a<2 ^ 8)(hb:b<2 ^ 8):bits .and .u8 (a:Int) (b:Int)=((a &&& b:Nat):Int):=
 (bits_nat .u8 8 (by decide) (fun n h0 h1=>by rw[IntKind.wrap_u8];omega) a b ha hb).1
def quoS (a b:Value):Sem Value:=binOp .quo 3 a b
def remS (a b:Value):Sem Value:=binOp .rem 3 a b
theorem quo_eq (a b:Value):binOp .quo 3 a b=quoS a b:=rfl
theorem rem_eq (a b:Value):binOp .rem 3 a b=remS a b:=rfl
theorem quo8 (w:World) (n:Nat)(hn:n<100000):(quoS (.int .i64 n) (.int .i64 8)).run Tryz.prog w=.ok (.int .i64 (n / 8:Nat)) w:=by
 have e1:(n:Int).tdiv 8=(n / 8:Nat):=by rw[Int.tdiv_eq_ediv_of_nonneg (by omega)];omega
 have y1:IntKind.i64.wrap ((n / 8:Nat):Int)=(n / 8:Nat):=IntWalk.i64_in _ (by omega)
 unfold quoS
 simp only[Int.natCast_ediv,Int.cast_ofNat_Int] at y1
 simp[go_sem,e1,y1]
theorem rem8 (w:World) (n:Nat)(hn:n<100000):(remS (.int .i64 n) (.int .i64 8)).run Tryz.prog w=.ok (.int .i64 (n % 8:Nat)) w:=by
 have e1:(n:Int).tmod 8=(n % 8:Nat):=by rw[Int.tmod_eq_emod_of_nonneg (by omega)];omega
 have y1:IntKind.i64.wrap ((n % 8:Nat):Int)=(n % 8:Nat):=IntWalk.i64_in _ (by omega)
 unfold remS
 simp only[Int.natCast_emod,Int.cast_ofNat_Int] at y1
 simp[go_sem,e1,y1]
attribute [local go_sem ↓] quo_eq rem_eq ld_set st_set ld_for st_for ld_tre ld_nod ix_nod
theorem has_is (w:World) {h:Nat→Nat}(hh:∀j,h j<256) {n:Nat}(hn:n<256):Calls Tryz.prog 260 #[.agg (setA h),.int .i64 n] w fun e w'=>e=.returned (.bool (hasB h n))∧Below w.heap.size w w':=by
 have hsz:=setA_size h
 have i0:(0:Int)≤n:=by omega
 have i1:(n:Int)<256:=by omega
 obtain⟨q,hq⟩:∃q,q=n / 8:=⟨_,rfl⟩
 obtain⟨r,hr⟩:∃r,r=n % 8:=⟨_,rfl⟩
 have f1:=quo8 (w.alloc (.cells (setA h) 111)) n (by omega)
 have f2:=rem8 (w.alloc (.cells (setA h) 111)) n (by omega)
 rw[← hq] at f1
 rw[← hr] at f2
 have q32:(q:Int)<32:=by omega
 have R1:=row_new w 111 (setA h)
 have c1:(w.alloc (.cells (setA h) 111)).cell? ⟨w.heap.size,q,none⟩=some (.int .u8 (h q)):=by rw[R1.cell,setA_get _ (by omega)]
 have HB:=Lib.hid (Go.Joins.below_alloc1 w (.cells (setA h) 111))
 have hx:=hh q
 have hd:hasB h n=decide (h q / 2 ^ r % 2=1):=by unfold hasB;rw[hq,hr]
 have HD:=Lib.hid hd
 have r8:min r 8=r:=by omega
 have s1:bits BinOp.and IntKind.u8 ((h q:Int) / 2 ^ min r 8) 1=((h q / 2 ^ r % 2:Nat):Int):=by
  rw[r8]
  have e:(h q:Int) / 2 ^ r=((h q / 2 ^ r:Nat):Int):=by push_cast;rfl
  have l:h q / 2 ^ r<2 ^ 8:=Nat.lt_of_le_of_lt (Nat.div_le_self _ _) hx
  have a:=u8_and (h q / 2 ^ r) 1 l (by decide)
  rw[Nat.and_one_is_mod] at a
  rw[e]
  exact a
 have s2:((h q:Int) / 2 ^ r % 2 == 1)=hasB h n:=by
  have e0:(h q:Int) / 2 ^ r % 2=((h q / 2 ^ r % 2:Nat):Int):=by push_cast;rfl
  rw[hd,e0]
  by_cases e:h q / 2 ^ r % 2=1
  ·rw[e];rfl
  ·rw[decide_eq_false e];exact beq_eq_false_iff_ne.2 (by omega)
 clear r8
 have S2:=Lib.hid s2
 clear s2
 generalize setA h=A at *
 clear R1 hd hq hr hn
 generalize h q=x at *
 go_enter Tryz.func260,Tryz.ntmps260
 go_upto_region 1 with fail
 go_wp2_with fail
 go_ret
 exact⟨by rw[← S2.out];rfl,HB.out⟩
theorem setZ:(#[.int .u8 0,.int .u8 0,.int .u8 0,.int .u8 0,.int .u8 0,.int .u8 0,.int .u8 0,.int .u8 0,.int .u8 0,.int .u8 0,.int .u8 0,.int .u8 0,.int .u8 0,.int .u8 0,.int .u8 0,.int .u8 0,.int .u8 0,.int .u8 0,.int .u8 0,.int .u8 0,.int .u8 0,.int .u8 0,.int .u8 0,.int .u8 0,.int .u8 0,.int .u8 0,.int .u8 0,.int .u8 0,.int .u8 0,.int .u8 0,.int .u8 0,.int .u8 0]:Array Value)=setA (fun _=>0):=by kernel_rfl
def jnI (h g:Nat→Nat) (i:Nat):Nat→Nat:=fun j=>if j<i then h j ||| g j else h j
theorem jnI_next (h g:Nat→Nat) (i:Nat):up (jnI h g i) i (h i ||| g i)=jnI h g (i+1):=by
 funext j
 unfold up jnI
 by_cases e:j=i
 ·subst e;rw[if_pos rfl,if_pos (by omega)]
 ·rw[if_neg e]
  by_cases l:j<i
  ·rw[if_pos l,if_pos (by omega)]
  ·rw[if_neg l,if_neg (by omega)]
theorem jnI_end (h g:Nat→Nat):setA (jnI h g 32)=setA (fun j=>h j ||| g j):=setA_ext fun j hj=>if_pos hj
theorem join_is (w:World) {h g:Nat→Nat}(hh:∀j,h j<256)(hg:∀j,g j<256):Calls Tryz.prog 308 #[.agg (setA h),.agg (setA g)] w fun e w'=>e=.returned (.agg (setA (fun j=>h j ||| g j)))∧Below w.heap.size w w':=by
 have hsz:=setA_size h
 have hsg:=setA_size g
 have HH:=Lib.hid hh
 have HG:=Lib.hid hg
 clear hh hg
 obtain⟨A,hA⟩:∃A,A=setA h:=⟨_,rfl⟩
 obtain⟨C,hC⟩:∃C,C=setA g:=⟨_,rfl⟩
 rw[← hA] at hsz ⊢
 rw[← hC] at hsg ⊢
 have HA:=Lib.hid hA
 have HC:=Lib.hid hC
 clear hA hC
 go_enter Tryz.func308,Tryz.ntmps308
 go_upto_region 1 with fail
 rw[setZ]
 obtain⟨w3,hw3⟩:∃w3,w3=((w.alloc (.cells A 111)).alloc (.cells C 111)).alloc (.cells (setA (fun _=>0)) 111):=⟨_,rfl⟩
 rw[← hw3]
 have R1:Row w3 w.heap.size 111 A:=by rw[hw3];exact((row_new w _ A).alloc _).alloc _
 have R2:Row w3 (w.heap.size+1) 111 C:=by
  rw[hw3]
  have:=(row_new (w.alloc (.cells A 111)) 111 C).alloc (.cells (setA (fun _=>0)) 111)
  simpa using this
 have R3:Row w3 (w.heap.size+1+1) 111 (setA (fun _=>0)):=by
  rw[hw3]
  have:=row_new ((w.alloc (.cells A 111)).alloc (.cells C 111)) 111 (setA (fun _=>0))
  simpa using this
 have HB:Hid (Below w.heap.size w w3):=Lib.hid (by rw[hw3];exact((((Below.refl _ _).alloc (Nat.le_refl _) _).alloc (by simp) _).alloc (by simp;omega) _))
 have HR2:=Lib.hid R2
 have HR3:=Lib.hid R3
 have h0:A=setA (jnI h g 0):=by rw[HA.out];exact setA_ext fun j _=>(if_neg (by omega)).symm
 rw[h0] at R1
 have HR1:=Lib.hid R1
 clear hw3 R1 R2 R3 h0
 go_upto_region 2 with fail
 go_loopw [6] (fun iv wr=>∃i:Nat,i≤32∧iv=.int .i64 i∧Hid (Row wr w.heap.size 111 (setA (jnI h g i)))∧Hid (Row wr (w.heap.size+1) 111 C)∧Hid (Row wr (w.heap.size+1+1) 111 (setA (fun _=>0)))∧Hid (Below w.heap.size w wr)) (fun iv _=>32-(intOf iv).toNat)
 case atStart=>exact⟨0,by omega,rfl,HR1,HR2,HR3,HB⟩
 case round=>
  clear HR1 HR2 HR3 HB
  obtain⟨i,hi0,rfl,HR1,HR2,HR3,HB⟩:=hrel
  by_cases hi:i<32
  ·have i1:(i:Int)<32:=by omega
   have i2:(0:Int)≤i:=by omega
   have c1:wr.drew.cell? ⟨w.heap.size,i,none⟩=some (.int .u8 (h i)):=by
    rw[HR1.out.drew.cell,setA_get _ hi];unfold jnI;rw[if_neg (by omega)]
   have z1:wr.drew.frozen? ⟨w.heap.size,i,none⟩=false:=HR1.out.drew.fz i
   have c2:wr.drew.cell? ⟨w.heap.size+1,i,none⟩=some (.int .u8 (g i)):=by
    rw[HR2.out.drew.cell,HC.out,setA_get _ hi]
   have o1:=u8_or (h i) (g i) (HH.out i) (HG.out i)
   have HN:Hid (Row ((wr.drew).setCell ⟨w.heap.size,i,none⟩ (.int .u8 ((h i ||| g i:Nat):Int))) w.heap.size 111 (setA (jnI h g (i+1)))):=Lib.hid (by
        rw[HR1.out.drew.setCell,setA_up _ hi,jnI_next]
        exact HR1.out.drew.setRow _)
   have HU:Hid (Upd (fun k=>k=w.heap.size) wr ((wr.drew).setCell ⟨w.heap.size,i,none⟩ (.int .u8 ((h i ||| g i:Nat):Int)))):=Lib.hid ((Upd.drew wr).trans (Upd.set _ _ rfl))
   have HX:Hid (h i<256∧g i<256):=Lib.hid ⟨HH.out i,HG.out i⟩
   generalize ((h i ||| g i:Nat):Int)=z at *
   go_upto_region 4 with fail
   go_region
   go_wp2_with fail
   go_roundw
   case rel=>exact⟨i+1,by omega,by go_num,HN,Lib.hid (HR2.out.upd HU.out (by show ¬w.heap.size+1=w.heap.size;omega)),Lib.hid (HR3.out.upd HU.out (by show ¬w.heap.size+1+1=w.heap.size;omega)),Lib.hid (HB.out.trans (HU.out.toBelow HB.out.size (fun k hk=>by show ¬k=w.heap.size;omega)))⟩
   case measure=>simp[intOf];omega
  ·obtain rfl:i=32:=by omega
   have l1:=HR1.out.ld0 Tryz.underlying111 rfl (by rw[setA_size];kernel_rfl)
   rw[jnI_end] at l1
   obtain⟨X,hX⟩:∃X,X=setA (fun j=>h j ||| g j):=⟨_,rfl⟩
   have HXs:Hid (X.size=32∧X.all (·.oneCell')=true):=Lib.hid ⟨by rw[hX];exact setA_size _,by rw[hX];exact setA_one _⟩
   rw[← hX] at l1
   have HXE:=Lib.hid hX
   have l2:=HR3.out.st0 (cs:=X) (by rw[setA_size];exact HXs.out.1) (by rw[HXs.out.1];kernel_rfl) HXs.out.2
   have l3:=(HR3.out.setRow X).ldV Tryz.underlying111 rfl (by rw[HXs.out.1];kernel_rfl)
   have HB4:=Lib.hid (HB.out.trans (Upd.toBelow (Upd.setRow wr (b:=w.heap.size+1+1) X (S:=fun k=>k=w.heap.size+1+1) rfl) HB.out.size (by omega)))
   clear HR1 HR2 HR3 HB hX HXs
   generalize wr.setRow (w.heap.size+1+1) X=w4 at *
   go_wp2_with fail
   exact bodyPost_ret (v:=.agg X) (by rw[results_cell1 rfl];simp[asAddr,Result.andThen,l3]) rfl ⟨by rw[HXE.out],HB4.out⟩
structure Lone1 (G:Nat→Nat):Prop where
 t0:G 0≠0
 t1:G 48=0
 t2:G 96=0
 t3:G 144=0
 lt:∀j,G j<256
theorem Lone1.there {G:Nat→Nat}(h:Lone1 G) (w:World) {k:Nat}(hk:k<4):Calls Tryz.prog 111 #[.agg (forA G),.int .i64 k] w fun e w'=>e=.returned (.bool (decide (k=0)))∧Below w.heap.size w w':=by
 refine there_is w hk ?_
 have:k=0∨k=1∨k=2∨k=3:=by omega
 rcases this with rfl|rfl|rfl|rfl
 ·have:=h.t0;simp[this]
 ·have:=h.t1;simp[this]
 ·have:=h.t2;simp[this]
 ·have:=h.t3;simp[this]
def hasT (G:Nat→Nat):Nat→Nat:=fun j=>G (16+j)
def tkI (G:Nat→Nat):Nat→Nat→Nat
 | 0=>fun _=>0
 | _+1=>hasT G
theorem ld_setk {w:World} {b:Nat} {G:Nat→Nat}(hr:Row w b 115 (forA G)):(ldR 111 (.pointer (some ⟨b,16,none⟩))).run Tryz.prog w=.ok (.agg (setA (hasT G))) w:=by
 have h:=hr.ld (U:=111) (o:=16) (n:=32) (by rw[forA_size];decide) Tryz.underlying111 rfl (by kernel_rfl)
 have e:=forA_set G (k:=0) (by decide)
 simp only[Nat.zero_mul,Nat.zero_add] at e
 rw[e] at h
 exact h
theorem taken_is (w:World) {G:Nat→Nat}(hG:Lone1 G):Calls Tryz.prog 258 #[.agg (forA G)] w fun e w'=>e=.returned (.agg (setA (hasT G)))∧Below w.heap.size w w':=by
 have HG:=Lib.hid hG
 have hsz:=forA_size G
 obtain⟨A,hA⟩:∃A,A=forA G:=⟨_,rfl⟩
 rw[← hA] at hsz ⊢
 have HA:=Lib.hid hA
 clear hA hG
 go_enter Tryz.func258,Tryz.ntmps258
 go_upto_region 2 with fail
 rw[setZ]
 obtain⟨w3,hw3⟩:∃w3,w3=((w.alloc (.cells A 115)).alloc (.cells (setA (fun _=>0)) 111)).alloc (.cells (setA (fun _=>0)) 111):=⟨_,rfl⟩
 rw[← hw3]
 have R1:Row w3 w.heap.size 115 A:=by rw[hw3];exact((row_new w _ A).alloc _).alloc _
 have R2:Row w3 (w.heap.size+1) 111 (setA (fun _=>0)):=by
  rw[hw3]
  have:=(row_new (w.alloc (.cells A 115)) 111 (setA (fun _=>0))).alloc (.cells (setA (fun _=>0)) 111)
  simpa using this
 have R3:Row w3 (w.heap.size+1+1) 111 (setA (fun _=>0)):=by
  rw[hw3]
  have:=row_new ((w.alloc (.cells A 115)).alloc (.cells (setA (fun _=>0)) 111)) 111 (setA (fun _=>0))
  simpa using this
 have HB:Hid (Below w.heap.size w w3):=Lib.hid (by rw[hw3];exact((((Below.refl _ _).alloc (Nat.le_refl _) _).alloc (by simp) _).alloc (by simp;omega) _))
 have HR1:=Lib.hid R1
 have HR2:=Lib.hid R2
 have HR3:=Lib.hid R3
 clear hw3 R1 R2 R3
 go_upto_region 3 with fail
 go_loopw [5] (fun iv wr=>∃i:Nat,i≤4∧iv=.int .i64 i∧Hid (Row wr w.heap.size 115 A)∧Hid (Row wr (w.heap.size+1) 111 (setA (fun _=>0)))∧Hid (Row wr (w.heap.size+1+1) 111 (setA (tkI G i)))∧Hid (Below w.heap.size w wr)) (fun iv _=>4-(intOf iv).toNat)
 case atStart=>exact⟨0,by omega,rfl,HR1,HR2,HR3,HB⟩
 case round=>
  clear HR1 HR2 HR3 HB
  obtain⟨i,hi0,rfl,HR1,HR2,HR3,HB⟩:=hrel
  by_cases hi:i<4
  ·have i1:(i:Int)<4:=by omega
   have i2:(0:Int)≤i:=by omega
   have l1:=HR1.out.ld0 Tryz.underlying115 rfl (by rw[hsz];kernel_rfl)
   have HT:=Lib.hid (HG.out.there wr hi)
   rw[← HA.out] at HT
   by_cases hz:i=0
   ·subst hz
    go_upto_region 6 with (go_at_call 111;refine HT.out.mono ?_;rintro e1 w1 ⟨rfl,hb1⟩;have HB1:=Lib.hid hb1;clear hb1)
    have hr1:=HR1.out.keep HB1.out
    have hr3:=HR3.out.keep HB1.out
    have HR2b:=Lib.hid (HR2.out.keep HB1.out)
    have HBb:=Lib.hid (HB.out.trans (HB1.out.mono HB.out.size))
    rw[HA.out] at hr1
    have l2:=ld_setk (w:=w1.drew) hr1.drew
    change Row w1 (w.heap.size+1+1) 111 (setA (fun _=>0)) at hr3
    have l3:=(Row.drew hr3).ld0 Tryz.underlying111 rfl (by rw[setA_size];kernel_rfl)
    have HJ:=Lib.hid (join_is w1.drew (h:=fun _=>0) (g:=hasT G) (fun _=>by decide) (fun j=>HG.out.lt _))
    simp only[Nat.zero_or] at HJ
    have HR1b:=Lib.hid hr1
    have HR3b:=Lib.hid hr3
    clear hr1 hr3 HR1 HR2 HR3 HB HT HB1 l1
    generalize hX:setA (hasT G)=X at *
    have HXs:Hid (X.size=32∧X.all (·.oneCell')=true):=Lib.hid ⟨by rw[← hX];exact setA_size _,by rw[← hX];exact setA_one _⟩
    have HXE:=Lib.hid hX
    clear hX
    have HZs:Hid ((setA (fun _=>0)).size=32):=Lib.hid (setA_size _)
    generalize hZ:setA (fun _=>0)=Z at *
    have HZE:=Lib.hid hZ
    clear hZ
    have HR3d:=Lib.hid (Row.drew HR3b.out)
    have HR1d:=Lib.hid (Row.drew HR1b.out)
    have HR2d:=Lib.hid (Row.drew HR2b.out)
    have HBd:=Lib.hid HBb.out.drew
    clear HR1b HR2b HR3b HBb
    go_still_tail 5,(by kernel_rfl)
    change wpList _ _ _ _ _ w1.drew
    generalize w1.drew=w1 at *
    clear l2 l3
    go_wp2_with (go_at_call 308;refine HJ.out.mono ?_;rintro e2 w2 ⟨rfl,hb2⟩;have st2:=(HR3d.out.keep hb2).st0 (cs:=X) (by rw[HXs.out.1];exact HZs.out.symm) (by rw[HXs.out.1];kernel_rfl) HXs.out.2;have HB2:=Lib.hid hb2;clear hb2)
    have HU:=Lib.hid (Upd.setRow w2 (b:=w.heap.size+1+1) X (S:=fun k=>k=w.heap.size+1+1) rfl)
    go_roundw
    case rel=>exact⟨1,by omega,by go_num,Lib.hid (by rw[HA.out];exact(HR1d.out.keep HB2.out).upd HU.out (by show ¬w.heap.size=w.heap.size+1+1;omega)),Lib.hid (by rw[HZE.out];exact(HR2d.out.keep HB2.out).upd HU.out (by show ¬w.heap.size+1=w.heap.size+1+1;omega)),Lib.hid (by show Row _ _ _ (setA (hasT G));rw[HXE.out];exact(HR3d.out.keep HB2.out).setRow X),Lib.hid ((HBd.out.trans (HB2.out.mono HBd.out.size)).trans (HU.out.toBelow (HBd.out.trans (HB2.out.mono HBd.out.size)).size (fun k hk=>by show ¬k=w.heap.size+1+1;omega)))⟩
    case measure=>simp[intOf]
   ·rw[decide_eq_false hz] at HT
    go_wp2_with (go_at_call 111;refine HT.out.mono ?_;rintro e1 w1 ⟨rfl,hb1⟩;have HB1:=Lib.hid hb1;clear hb1)
    go_roundw
    case rel=>exact⟨i+1,by omega,by go_num,Lib.hid (HR1.out.keep HB1.out),Lib.hid (HR2.out.keep HB1.out),Lib.hid (by
          have:=HR3.out.keep HB1.out
          obtain⟨j,rfl⟩:∃j,i=j+1:=⟨i-1,by omega⟩
          exact this),Lib.hid (HB.out.trans (HB1.out.mono HB.out.size))⟩
    case measure=>simp[intOf];omega
  ·obtain rfl:i=4:=by omega
   have l1:=HR3.out.ld0 Tryz.underlying111 rfl (by rw[setA_size];kernel_rfl)
   change _=Result.ok (Value.agg (setA (hasT G))) wr at l1
   obtain⟨X,hX⟩:∃X,X=setA (hasT G):=⟨_,rfl⟩
   have HXs:Hid (X.size=32∧X.all (·.oneCell')=true):=Lib.hid ⟨by rw[hX];exact setA_size _,by rw[hX];exact setA_one _⟩
   rw[← hX] at l1
   have HXE:=Lib.hid hX
   have l2:=HR2.out.st0 (cs:=X) (by rw[setA_size];exact HXs.out.1) (by rw[HXs.out.1];kernel_rfl) HXs.out.2
   have l3:=(HR2.out.setRow X).ldV Tryz.underlying111 rfl (by rw[HXs.out.1];kernel_rfl)
   have HB4:=Lib.hid (HB.out.trans (Upd.toBelow (Upd.setRow wr (b:=w.heap.size+1) X (S:=fun k=>k=w.heap.size+1) rfl) HB.out.size (by omega)))
   clear HR1 HR2 HR3 HB hX HXs
   generalize wr.setRow (w.heap.size+1) X=w4 at *
   go_wp2_with fail
   exact bodyPost_ret (v:=.agg X) (by rw[results_cell1 rfl];simp[asAddr,Result.andThen,l3]) rfl ⟨by rw[HXE.out],HB4.out⟩
theorem hasB_byte {h:Nat→Nat} {i k:Nat}(h255:h (i / 8)=255)(h1:i / 8=k / 8):hasB h k=true:=by
 unfold hasB
 rw[← h1,h255]
 have:k % 8=0∨k % 8=1∨k % 8=2∨k % 8=3∨k % 8=4∨k % 8=5∨k % 8=6∨k % 8=7:=by omega
 rcases this with e|e|e|e|e|e|e|e <;> rw[e] <;> decide
theorem first_is (w:World) {h:Nat→Nat}(hh:∀j,h j<256) {n:Nat}(hn:n<256)(hn0:37≤n)(hf:hasB h n=false)(ho:∀i,37≤i→i<n→hasB h i=true):Calls Tryz.prog 259 #[.agg (setA h),.int .i64 37,.int .i64 256] w fun e w'=>e=.returned (.tuple #[.int .i64 n,.int .i64 0])∧Below w.heap.size w w':=by
 have hsz:=setA_size h
 have HH:=Lib.hid hh
 have HF:=Lib.hid (And.intro hf ho)
 have HN:=Lib.hid hn
 have R1:=row_new w 111 (setA h)
 have HB:=Lib.hid (Go.Joins.below_alloc1 w (.cells (setA h) 111))
 have HG:=Lib.hid (fun j (hj:j<32)=>setA_get h hj)
 obtain⟨A,hA⟩:∃A,A=setA h:=⟨_,rfl⟩
 rw[← hA] at hsz R1 HB HG ⊢
 have HA:=Lib.hid hA
 have HR1:=Lib.hid R1
 clear hA hh hf ho R1
 go_enter Tryz.func259,Tryz.ntmps259
 go_upto_region 2 with fail
 go_loopw [8] (fun iv wr=>∃i:Nat,37≤i∧i≤n∧iv=.int .i64 i∧Hid (Row wr w.heap.size 111 A)∧Hid (Below w.heap.size w wr)) (fun iv _=>n-(intOf iv).toNat)
 case atStart=>exact⟨37,by omega,by omega,rfl,HR1,HB⟩
 case round=>
  clear HR1 HB
  obtain⟨i,hi0,hi1,rfl,HR1,HB⟩:=hrel
  have i1:(i:Int)<256:=by omega
  have i2:(0:Int)≤i:=by omega
  have f1:=quo8 wr i (by omega)
  have f2:=rem8 wr i (by omega)
  have hx:=HH.out (i / 8)
  have c1:wr.cell? ⟨w.heap.size,i / 8,none⟩=some (.int .u8 (h (i / 8))):=by rw[HR1.out.cell,HG.out _ (by omega)]
  have l1:=HR1.out.ld0 Tryz.underlying111 rfl (by rw[hsz];kernel_rfl)
  have HHS:=Lib.hid (has_is wr HH.out (n:=i) (by omega))
  rw[← HA.out] at HHS
  by_cases hb:i % 8=0∧h (i / 8)=255
  ·have HN8:Hid (i+8≤n):=Lib.hid (by
        have:n / 8≠i / 8:=fun e=>by
          have:=hasB_byte hb.2 (k:=n) e.symm
          rw[HF.out.1] at this
          cases this
        omega)
   obtain⟨hb1,hb2⟩:=hb
   rw[hb1] at f2
   rw[hb2] at c1
   clear hx hb1 hb2
   have q32:((i / 8:Nat):Int)<32:=by omega
   generalize i / 8=q at *
   go_wp2_with fail
   go_roundw
   case rel=>exact⟨i+8,by omega,HN8.out,by go_num,HR1,HB⟩
   case measure=>simp[intOf];have:=HN8.out;omega
  ·by_cases h8:i % 8=0
   ·have hb2:(((h (i / 8):Nat):Int) == 255)=false:=beq_eq_false_iff_ne.2 (by omega)
    rw[h8] at f2
    clear hx h8 hb
    have q32:((i / 8:Nat):Int)<32:=by omega
    generalize ((h (i / 8):Nat):Int)=x at *
    generalize i / 8=q at *
    by_cases hin:i<n
    ·rw[HF.out.2 i hi0 hin] at HHS
     go_wp2_with (go_at_call 260;refine HHS.out.mono ?_;rintro e1 w1 ⟨rfl,hb1⟩;have HB1:=Lib.hid hb1;clear hb1)
     go_roundw
     case rel=>exact⟨i+1,by omega,by omega,by go_num,Lib.hid (HR1.out.keep HB1.out),Lib.hid (HB.out.trans (HB1.out.mono HB.out.size))⟩
     case measure=>simp[intOf];omega
    ·obtain rfl:i=n:=by omega
     rw[HF.out.1] at HHS
     go_wp2_with (go_at_call 260;refine HHS.out.mono ?_;rintro e1 w1 ⟨rfl,hb1⟩;have HB1:=Lib.hid hb1;clear hb1)
     go_ret2
     exact⟨rfl,HB.out.trans (HB1.out.mono HB.out.size)⟩
   ·have hb2:(((i % 8:Nat):Int) == 0)=false:=beq_eq_false_iff_ne.2 (by omega)
    clear hx h8 hb c1 f1
    generalize ((i % 8:Nat):Int)=x at *
    by_cases hin:i<n
    ·rw[HF.out.2 i hi0 hin] at HHS
     go_wp2_with (go_at_call 260;refine HHS.out.mono ?_;rintro e1 w1 ⟨rfl,hb1⟩;have HB1:=Lib.hid hb1;clear hb1)
     go_roundw
     case rel=>exact⟨i+1,by omega,by omega,by go_num,Lib.hid (HR1.out.keep HB1.out),Lib.hid (HB.out.trans (HB1.out.mono HB.out.size))⟩
     case measure=>simp[intOf];omega
    ·obtain rfl:i=n:=by omega
     rw[HF.out.1] at HHS
     go_wp2_with (go_at_call 260;refine HHS.out.mono ?_;rintro e1 w1 ⟨rfl,hb1⟩;have HB1:=Lib.hid hb1;clear hb1)
     go_ret2
     exact⟨rfl,HB.out.trans (HB1.out.mono HB.out.size)⟩
theorem shared_is (w:World) {G:Nat→Nat}(hG:Lone1 G) (n:Value):Calls Tryz.prog 197 #[.agg (forA G),n] w fun e w'=>e=.returned (.bool false)∧Below w.heap.size w w':=by
 have hsz:=forA_size G
 have HG:=Lib.hid hG
 have R1:=row_new w 115 (forA G)
 have HB:=Lib.hid (Go.Joins.below_alloc1 w (.cells (forA G) 115))
 obtain⟨A,hA⟩:∃A,A=forA G:=⟨_,rfl⟩
 rw[← hA] at hsz R1 HB ⊢
 have HA:=Lib.hid hA
 have HR1:=Lib.hid R1
 clear hA hG R1
 go_enter Tryz.func197,Tryz.ntmps197
 go_upto_region 2 with fail
 go_loopw [5] (fun iv wr=>∃i:Nat,1≤i∧i≤4∧iv=.int .i64 i∧Hid (Row wr w.heap.size 115 A)∧Hid (Below w.heap.size w wr)) (fun iv _=>4-(intOf iv).toNat)
 case atStart=>exact⟨1,by omega,by omega,rfl,HR1,HB⟩
 case round=>
  clear HR1 HB
  obtain⟨i,hi0,hi1,rfl,HR1,HB⟩:=hrel
  by_cases hi:i<4
  ·have i1:(i:Int)<4:=by omega
   have i2:(0:Int)≤i:=by omega
   have l1:=HR1.out.ld0 Tryz.underlying115 rfl (by rw[hsz];kernel_rfl)
   have HT:=Lib.hid (HG.out.there wr hi)
   rw[← HA.out,decide_eq_false (by omega)] at HT
   go_wp2_with (go_at_call 111;refine HT.out.mono ?_;rintro e1 w1 ⟨rfl,hb1⟩;have HB1:=Lib.hid hb1;clear hb1)
   go_roundw
   case rel=>exact⟨i+1,by omega,by omega,by go_num,Lib.hid (HR1.out.keep HB1.out),Lib.hid (HB.out.trans (HB1.out.mono HB.out.size))⟩
   case measure=>simp[intOf];omega
  ·obtain rfl:i=4:=by omega
   go_wp2_with fail
   go_ret
   exact⟨rfl,HB.out⟩
structure Nd where
 k:Int
 m:Int
 u:Int
 g:Int
 sz:Int
 l:Int
 up:Int
 pv:Value
 ps:List Int
def nd0:Nd:=⟨0,0,0,0,0,0,0,.slice none 0 0,[]⟩
def ndA (x:Nd):Array Value:=#[.int .i64 x.k,.int .i64 x.m,.int .i64 x.u,.int .i64 x.g,.int .i64 x.sz,.int .i64 x.l,.int .i64 x.up,x.pv]
theorem ndA_size (x:Nd):(ndA x).size=8:=rfl
theorem ndA_one (x:Nd)(h:x.pv.oneCell'=true):(ndA x).all (·.oneCell')=true:=by
 simp[ndA,Value.oneCell'] at *
 exact h
def ndsC (nd:Nat→Nd) (n:Nat):List Value:=(List.range n).flatMap fun i=>(ndA (nd i)).toList
theorem ndsC_next (nd:Nat→Nd) (n:Nat):ndsC nd (n+1)=ndsC nd n++(ndA (nd n)).toList:=by
 unfold ndsC
 rw[List.range_succ,List.flatMap_append]
 simp
theorem ndsC_len (nd:Nat→Nd) (n:Nat):(ndsC nd n).length=n*8:=by
 induction n with
 | zero=>rfl
 | succ n ih=>rw[ndsC_next,List.length_append,ih];simp[ndA];omega
theorem ndsC_get (nd:Nat→Nd):∀(n:Nat) {i j:Nat},i<n→j<8→(ndsC nd n)[i*8+j]?=(ndA (nd i))[j]?
 | 0,i,j,h,_=>by omega
 | n+1,i,j,h,hj=>by
  rw[ndsC_next]
  by_cases e:i=n
  ·subst e
   rw[List.getElem?_append_right (by rw[ndsC_len];omega),ndsC_len]
   rw[show i*8+j-i*8=j by omega,Array.getElem?_toList]
  ·rw[List.getElem?_append_left (by rw[ndsC_len];omega)]
   exact ndsC_get nd n (by omega) hj
structure NB (w:World) (N:Nat) (C:Array Value) (nd:Nat→Nd):Prop where
 row:Row w N 120 C
 sz:256≤C.size
 get:∀i,i<32→∀j,j<8→C[i*8+j]?=(ndA (nd i))[j]?
def ups1 {α:Type} (f:Nat→α) (i:Nat) (x:α):Nat→α:=fun k=>if k=i then x else f k
theorem ups1_same {α:Type} (f:Nat→α) (i:Nat) (x:α):ups1 f i x i=x:=if_pos rfl
theorem ups1_off {α:Type} (f:Nat→α) {i k:Nat} (x:α)(h:k≠i):ups1 f i x k=f k:=if_neg h
section
variable {w w':World} {N:Nat} {C:Array Value} {nd:Nat→Nd}
theorem NB.upd {S:Nat→Prop}(h:NB w N C nd)(hu:Upd S w w')(hn:¬S N):NB w' N C nd:=⟨h.row.upd hu hn,h.sz,h.get⟩
theorem NB.keep (h:NB w N C nd)(hb:Below w.heap.size w w'):NB w' N C nd:=⟨h.row.keep hb,h.sz,h.get⟩
theorem NB.of_own {B:Nat} {v:Value}(h:w.ownsRow B 120 8 v 32 (ndsC nd 32)):∃g cap C,v=.slice (some ⟨g,0,none⟩) 32 cap∧B≤g∧32≤cap∧cap≤maxLen∧NB w g C nd:=by
 rcases h.2 with ⟨_,h0⟩|⟨g,cap,cur,rfl,hB,hg,h1,h2,h3,h4⟩
 ·omega
 ·refine⟨g,cap,cur,rfl,hB,h1,h2,hg,by omega,fun i hi j hj=>?_⟩
  rw[← ndsC_get nd 32 hi hj,← h4,List.getElem?_take,if_pos (by omega),Array.getElem?_toList]
theorem NB.cell (h:NB w N C nd) {i j:Nat}(hi:i<32)(hj:j<8):w.cell? ⟨N,i*8+j,none⟩=(ndA (nd i))[j]?:=by rw[h.row.cell,h.get i hi j hj]
theorem NB.ext (h:NB w N C nd) {i:Nat}(hi:i<32):C.extract (i*8) (i*8+8)=ndA (nd i):=by
 have:=h.sz
 apply Array.ext_getElem?
 intro j
 rw[Array.getElem?_extract]
 by_cases hj:j<8
 ·rw[if_pos (by omega),h.get i hi j hj]
 ·rw[if_neg (by omega),Array.getElem?_eq_none (by rw[ndA_size];omega)]
theorem NB.ld (h:NB w N C nd) {i:Nat}(hi:i<32):(ldR 120 (.pointer (some ⟨N,i*8,none⟩))).run Tryz.prog w=.ok (.agg (ndA (nd i))) w:=by
 have:=h.row.ld (U:=120) (o:=i*8) (n:=8) (by have:=h.sz;omega) Tryz.underlying120 rfl (by kernel_rfl)
 rw[h.ext hi] at this
 exact this
theorem NB.st (h:NB w N C nd) {i:Nat}(hi:i<32) {x:Nd}(hx:x.pv.oneCell'=true):(stR 120 (.pointer (some ⟨N,i*8,none⟩)) (.agg (ndA x))).run Tryz.prog w=.ok () (w.setRow N (putA C (i*8) (ndA x).toList))∧NB (w.setRow N (putA C (i*8) (ndA x).toList)) N (putA C (i*8) (ndA x).toList) (ups1 nd i x):=by
 have hs:=h.sz
 have hl:i*8+(ndA x).toList.length≤C.size:=by simp[ndA];omega
 refine⟨h.row.st (U:=120) (by rw[ndA_size];omega) (by rw[ndA_size];kernel_rfl) (ndA_one x hx),h.row.setRow _,by rw[putA_size hl];exact hs,fun k hk j hj=>?_⟩
 rw[putA_get hl]
 have e8:(ndA x).toList.length=8:=rfl
 by_cases e:k=i
 ·subst e
  rw[if_pos (by omega),ups1_same,show k*8+j-k*8=j by omega,Array.getElem?_toList]
 ·rw[if_neg (by omega),ups1_off _ _ e,h.get k hk j hj]
end
end Go.Proofs.YtfkepfncgdlgoaaGreatDoor
