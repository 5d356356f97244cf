/- Answers of calls, handed up: fail, Catch, Ask's closure, do. Signals: a set, what is sent, what comes next: in plain numbers. No program here. The walks of package sig (printed by wip/tools/gen_sig.py). Sets of signals by whole rows: laws of loads and stores; the walk of Send. -/
import Derived.Test.YtfkepfncgdlgoaaGreatDoorStart
import Derived.Defers
import Derived.Recover
import Derived.Tactics2
import Derived.Test.YtfkepfncgdlgoaaGreatDoorOpenWalk
import Derived.Test.YtfkepfncgdlgoaaGreatDoorProg
import Derived.Test.YtfkepfncgdlgoaaGreatDoorDisk2
import Derived.WalkSmall
import Derived.BigQuiet
import Derived.BigRegion
import Derived.Deep.WholeRow
import Derived.Laws.ResultCell
set_option linter.unusedVariables false
set_option linter.unusedSimpArgs false
set_option maxRecDepth 100000
set_option maxHeartbeats 4000000
namespace Go.Proofs.YtfkepfncgdlgoaaGreatDoor
open Go.RowKit
structure OutOk (w0:World) (Out:World→Array Value→World→Prop):Prop where
 step:∀w w1 w2 b C X,Below w0.heap.size w0 w→Below w.heap.size w w1→Out w1 X w2→w.heap.size≤b→b<w1.heap.size→Out w X (w2.setRow b C)
 lift:∀w w1 w2 X,Below w0.heap.size w0 w→Below w.heap.size w w1→Out w1 X w2→Out w X w2
 keep:∀w X w2 w3,Out w X w2→Below w2.heap.size w2 w3→Out w X w3
def Res (w0:World) (Out:World→Array Value→World→Prop) (w1:World) (e:Ending) (w2:World):Prop:=
 ∃X,e=.returned (.agg X)∧X.size=11∧X.all (·.oneCell')=true∧Upd (fun k=>k<w0.heap.size) w1 w2∧Out w1 X w2
def Spec (w0:World) (Out:World→Array Value→World→Prop) (f:Nat) (args:Array Value):Prop:=∀w1,Below w0.heap.size w0 w1→Calls Tryz.prog f args w1 (Res w0 Out w1)
def ansZ:Array Value:=#[.int .i64 0,.int .i64 0,.int .i64 0,.slice none 0 0,.slice none 0 0,.int .i64 0,.int .i64 0,.int .i64 0,.int .i64 0,.int .i64 0,.int .i64 0]
def ansV (e a b:Int) (d:Value):Array Value:=#[.int .i64 e,.int .i64 a,.int .i64 b,d,.slice none 0 0,.int .i64 0,.int .i64 0,.int .i64 0,.int .i64 0,.int .i64 0,.int .i64 0]
theorem ansV_one (e a b:Int) {d:Value}(hd:d.oneCell'=true):(ansV e a b d).all (·.oneCell')=true:=by cases d <;> simp_all [ansV,Value.oneCell']
theorem ld_ans (v:Value):Instr.loadAt 35 v=ldR 35 v:=rfl
theorem st_ans (p v:Value):Instr.storeAt 35 p v=stR 35 p v:=rfl
theorem ld_call (v:Value):Instr.loadAt 38 v=ldR 38 v:=rfl
section
variable {w0 w w1 w2:World} {Out:World→Array Value→World→Prop} {X C:Array Value} {b:Nat}
theorem OutOk.put (ok:OutOk w0 Out)(h0:Below w0.heap.size w0 w)(h1:Below w.heap.size w w1)(hu:Upd (fun k=>k<w0.heap.size) w1 w2)(ho:Out w1 X w2)(hb:w.heap.size≤b)(hb1:b<w1.heap.size):Upd (fun k=>k<w0.heap.size) w (w2.setRow b C)∧Out w X (w2.setRow b C):=
 ⟨((Upd.below h1).trans hu).trans' (Upd.setRow w2 C (S:=fun k=>k=b) rfl) (fun i hi e=>by omega),ok.step w w1 w2 b C X h0 h1 ho hb hb1⟩
theorem ans_row (h0:Below w0.heap.size w0 w)(hr:Row w1 b 35 ansZ)(hb:w.heap.size≤b)(hu:Upd (fun k=>k<w0.heap.size) w1 w2):Row w2 b 35 ansZ:=hr.upd hu (by have:=h0.size;omega)
theorem ans_st (hr:Row w2 b 35 ansZ)(hX:X.size=11)(h1:X.all (·.oneCell')=true):(stR 35 (.pointer (some ⟨b,0,none⟩)) (.agg X)).run Tryz.prog w2=.ok () (w2.setRow b X):=hr.st0 (by rw[hX];rfl) (by rw[hX];kernel_rfl) h1
theorem ans_ldV (hr:Row w2 b 35 ansZ)(hX:X.size=11):(loadVar 35 ⟨b,0,none⟩).run Tryz.prog (w2.setRow b X)=.ok (.agg X) (w2.setRow b X):=(hr.setRow X).ldV Tryz.underlying35 rfl (by rw[hX];kernel_rfl)
theorem cidle (p:Addr) (w:World):CallsD Tryz.prog 36 #[.pointer (some p)] .returning w fun e u' w'=>e=.returned (.tuple #[])∧u'=.returning∧w'=w:=by
 refine callsD_of_wpS Tryz.func36 rfl fun c₀ cs hu=>?_
 apply wpS_seq
 apply wpS_region
 simp[wpOpsS,go_sem,recoverD,hu,Tryz.ntmps36,Exit.thenS]
 apply wpS_seq
 apply wpS_region
 simp[wpOpsS,go_sem,recoverD,hu,Tryz.ntmps36,Exit.thenS]
 refine wpS_cond (t:=false) (by simp[Act.eval,Array.replicate]) ?_
 simp only[Bool.false_eq_true,if_false]
 refine wpS_of_wp (wp_skip ?_)
 cases c₀
 simp_all [bodyPostS,results,Tryz.results36]
attribute [local go_sem ↓] ld_ans st_ans ld_call
theorem catch_is (ok:OutOk w0 Out)(h0:Below w0.heap.size w0 w) {p0 p1 p2:Addr}(hc:∀w1,Below w.heap.size w w1→Calls Tryz.prog 17 #[.pointer (some p0),.pointer (some p1),.pointer (some p2)] w1 (Res w0 Out w1)) :
  Calls Tryz.prog 16 #[.func (.func 17) #[] #[.pointer (some p0),.pointer (some p1),.pointer (some p2)]] w (Res w0 Out w):=by
 have hmf:∀(fn:Fn) (first cap:Array Value) (w:World),(Instr.makeFunc fn first cap).run Tryz.prog w=.ok (.func fn first cap) w:=fun _ _ _ _=>rfl
 have HB:=Lib.hid (Go.Joins.below_alloc1 w (.cells ansZ 35))
 have HR:=Lib.hid (row_new w 35 ansZ)
 have HC:=Lib.hid (hc _ HB.out)
 have HOK:=Lib.hid ok
 have H0:=Lib.hid h0
 clear hc ok h0
 go_enter_defers Tryz.func16,Tryz.ntmps16
 go_wp2_with fail
 refine HC.out.mono ?_
 rintro e w2 ⟨X,rfl,hX,hone,hu,ho⟩
 have hr:=ans_row H0.out HR.out (Nat.le_refl _) hu
 have hst:=ans_st hr hX hone
 have HLD:=Lib.hid (ans_ldV hr hX)
 have HP:=Lib.hid (HOK.out.put (C:=X) H0.out HB.out hu ho (Nat.le_refl _) HR.out.lt)
 have HX:=Lib.hid (And.intro hX hone)
 clear hr hX hone hu ho HC HR
 generalize w2.setRow w.heap.size X=w3 at *
 go_wp2_with fail
 refine leaves_cons (f:=36) (args:=#[.pointer (some ⟨w.heap.size,0,none⟩)]) (by simp) (by simp[go_sem]) ?_
 refine(cidle ⟨w.heap.size,0,none⟩ _).mono ?_
 rintro e u' w'' ⟨rfl,rfl,rfl⟩
 have hld:=HLD.out
 simp only[Leaves,settle]
 exact⟨.agg X,by rw[results_cell1 rfl];simp[asAddr,Result.andThen,hld],X,rfl,HX.out.1,HX.out.2,HP.out.1,HP.out.2⟩
end
end Go.Proofs.YtfkepfncgdlgoaaGreatDoor
namespace Go.Proofs.YtfkepfncgdlgoaaGreatDoor.SigLaw
structure G where
 p:Int
 m:Int
 h:Nat→Int
def fitB (x:Int):Bool:=(bits .andNot .i64 x 65534 == 0)
theorem fit_nat {x:Int}(h0:-2 ^ 63≤x)(h1:x<2 ^ 63)(h:fitB x=true):∃n:Nat,x=n∧n<65536∧n.testBit 0=false:=by
 unfold fitB at h
 have h2:bits .andNot .i64 x 65534=0:=by simpa using h
 have h3:IntKind.i64.wrap ((BitVec.ofInt 64 x &&& ~~~BitVec.ofInt 64 65534).toNat:Int)=0:=h2
 obtain⟨b,hb⟩:∃b,b=BitVec.ofInt 64 x:=⟨_,rfl⟩
 rw[← hb] at h3
 have h4:(b &&& ~~~BitVec.ofInt 64 65534).toNat=0:=by
  rw[IntKind.wrap_i64] at h3
  have:=(b &&& ~~~BitVec.ofInt 64 65534).isLt
  omega
 have hbit:∀i,b.toNat.testBit i=true→i≠0∧i<16:=by
  intro i hi
  have h5:(b &&& ~~~BitVec.ofInt 64 65534).toNat.testBit i=false:=by rw[h4];simp
  rw[BitVec.testBit_toNat,BitVec.getLsbD_and,BitVec.getLsbD_not] at h5
  rw[BitVec.testBit_toNat] at hi
  have hlt:i<64:=by
   rcases Nat.lt_or_ge i 64 with h|h
   ·exact h
   ·rw[BitVec.getLsbD_of_ge _ _ h] at hi;cases hi
  rw[hi] at h5
  simp[hlt] at h5
  have hex:∀i:Fin 64,(BitVec.ofInt 64 65534).getLsbD i.val=true→i.val≠0∧i.val<16:=by decide +kernel
  exact hex ⟨i,hlt⟩ h5
 have hlt:b.toNat<65536:=by
  apply Nat.lt_pow_two_of_testBit b.toNat (n:=16)
  intro i hi
  cases ht:b.toNat.testBit i
  ·rfl
  ·have:=(hbit i ht).2;omega
 refine⟨b.toNat,?_,hlt,?_⟩
 ·have h6:b.toInt=x:=by
   rw[hb,BitVec.toInt_ofInt]
   apply Int.bmod_eq_of_le <;> omega
  rw[← h6,BitVec.toInt_eq_toNat_of_lt (by omega)]
 ·cases ht:b.toNat.testBit 0
  ·rfl
  ·exact absurd rfl (hbit 0 ht).1
theorem nat_fit (n:Nat)(h:n<65536)(h0:n.testBit 0=false):fitB n=true:=by
 unfold fitB
 rw[show (65534:Int)=((65534:Nat):Int) from rfl,i64_andNot n 65534 (by omega) (by decide)]
 have:less n 65534=0:=by
  rw[less_zero]
  intro i hi
  have hlt:i<16:=by
   rcases Nat.lt_or_ge i 16 with h'|h'
   ·exact h'
   ·rw[Nat.testBit_lt_two_pow (Nat.lt_of_lt_of_le h (Nat.pow_le_pow_right (n:=2) (by decide) h'))] at hi;cases hi
  have h1:i≠0:=by rintro rfl;rw[h0] at hi;cases hi
  have hex:∀i:Fin 16,i.val≠0→(65534:Nat).testBit i.val=true:=by decide +kernel
  exact hex ⟨i,hlt⟩ h1
 rw[this];rfl
theorem bit_is (n k:Nat)(h:n<65536):bits .and .i64 ((n:Int) / 2 ^ k) 1=if n.testBit k=true then 1 else 0:=by
 have e:(n:Int) / 2 ^ k=((n / 2 ^ k:Nat):Int):=by norm_cast
 have hlt:n / 2 ^ k<2 ^ 63:=Nat.lt_of_le_of_lt (Nat.div_le_self _ _) (by omega)
 rw[e,show (1:Int)=((1:Nat):Int) from rfl,i64_and _ _ hlt (by decide),Nat.and_one_is_mod,Nat.testBit_eq_decide_div_mod_eq]
 have:n / 2 ^ k % 2=0∨n / 2 ^ k % 2=1:=by omega
 rcases this with h|h <;> simp[h]
theorem bit_eq (n k:Nat)(h:n<65536):(bits .and .i64 ((n:Int) / 2 ^ k) 1 == 1)=n.testBit k:=by
 rw[bit_is n k h]
 cases n.testBit k <;> rfl
structure Right (g:G) (P M:Nat):Prop where
 p:g.p=P
 m:g.m=M
 pl:P<65536
 p0:P.testBit 0=false
 ml:M<65536
 m0:M.testBit 0=false
 m9:M.testBit 9=false
 h:∀j,j<16→0≤g.h j
 h0:g.h 0=0
 h9:g.h 9=0
def good (g:G):Prop:=∃P M,Right g P M
theorem one_shift (k:Nat)(h:k<16):1 <<< k<65536:=by
 rw[Nat.one_shiftLeft];exact Nat.pow_lt_pow_right (by decide) h
theorem less_lt (a b:Nat)(h:a<65536):less a b<65536:=Nat.lt_of_le_of_lt (less_le a b) h
def deaf (g:G) (n:Nat):Prop:=g.h n=1∨(n=7∧g.h n=0)
instance (g:G) (n:Nat):Decidable (deaf g n):=by unfold deaf;infer_instance
end Go.Proofs.YtfkepfncgdlgoaaGreatDoor.SigLaw
namespace Go.Proofs.YtfkepfncgdlgoaaGreatDoor.SigLaw
open Go.RowKit
abbrev cellsG (g:G):Obj:=.cells #[.int .i64 g.p,.int .i64 g.m,.int .i64 (g.h 0),.int .i64 (g.h 1),.int .i64 (g.h 2),.int .i64 (g.h 3),.int .i64 (g.h 4),.int .i64 (g.h 5),.int .i64 (g.h 6),.int .i64 (g.h 7),.int .i64 (g.h 8),.int .i64 (g.h 9),.int .i64 (g.h 10),.int .i64 (g.h 11),.int .i64 (g.h 12),.int .i64 (g.h 13),.int .i64 (g.h 14),.int .i64 (g.h 15)] 60
abbrev encG (g:G):Value:=.agg #[.int .i64 g.p,.int .i64 g.m,.int .i64 (g.h 0),.int .i64 (g.h 1),.int .i64 (g.h 2),.int .i64 (g.h 3),.int .i64 (g.h 4),.int .i64 (g.h 5),.int .i64 (g.h 6),.int .i64 (g.h 7),.int .i64 (g.h 8),.int .i64 (g.h 9),.int .i64 (g.h 10),.int .i64 (g.h 11),.int .i64 (g.h 12),.int .i64 (g.h 13),.int .i64 (g.h 14),.int .i64 (g.h 15)]
abbrev zeroG:G:=⟨0,0,fun _=>0⟩
theorem number_any (n:Int) (w:World):Calls Tryz.prog 179 #[.int .i64 n] w fun e w'=>e=.returned (.bool (decide (1≤n) && decide (n≤15)))∧w=w':=by
 by_cases h1:1≤n
 ·by_cases h2:n≤15
  ·go_enter Tryz.func179,Tryz.ntmps179
   go_wp2
   go_ret
   exact⟨by simp[h1,h2],rfl⟩
  ·go_enter Tryz.func179,Tryz.ntmps179
   go_wp2
   go_ret
   exact⟨by simp[h1,h2],rfl⟩
 ·go_enter Tryz.func179,Tryz.ntmps179
  go_wp2
  go_ret
  exact⟨by rw[show decide (1≤n)=false from by simp;omega];rfl,rfl⟩
def CheckPost (g:G) (w:World) (e:Ending) (w':World):Prop:=∃en:Int,e=.returned (.int .i64 en)∧Below w.heap.size w w'∧(en=0∧good g∨en≠0∧¬good g)
theorem checkPost_bad {g:G} {w w':World} {en:Int}(h:¬good g)(he:en≠0)(hb:Below w.heap.size w w'):CheckPost g w (.returned (.int .i64 en)) w':=⟨en,rfl,hb,.inr ⟨he,h⟩⟩
theorem new_any (w:World) (g:G):Below w.heap.size w (w.alloc (cellsG g)):=(Below.refl _ _).alloc (Nat.le_refl _) _
theorem ix0 (g:G) (w:World):(Instr.index 58 (.agg #[.int .i64 (g.h 0),.int .i64 (g.h 1),.int .i64 (g.h 2),.int .i64 (g.h 3),.int .i64 (g.h 4),.int .i64 (g.h 5),.int .i64 (g.h 6),.int .i64 (g.h 7),.int .i64 (g.h 8),.int .i64 (g.h 9),.int .i64 (g.h 10),.int .i64 (g.h 11),.int .i64 (g.h 12),.int .i64 (g.h 13),.int .i64 (g.h 14),.int .i64 (g.h 15)]) (.int .i64 0)).run Tryz.prog w=.ok (.int .i64 (g.h 0)) w:=by kernel_rfl
theorem ix1 (g:G) (w:World):(Instr.index 58 (.agg #[.int .i64 (g.h 0),.int .i64 (g.h 1),.int .i64 (g.h 2),.int .i64 (g.h 3),.int .i64 (g.h 4),.int .i64 (g.h 5),.int .i64 (g.h 6),.int .i64 (g.h 7),.int .i64 (g.h 8),.int .i64 (g.h 9),.int .i64 (g.h 10),.int .i64 (g.h 11),.int .i64 (g.h 12),.int .i64 (g.h 13),.int .i64 (g.h 14),.int .i64 (g.h 15)]) (.int .i64 1)).run Tryz.prog w=.ok (.int .i64 (g.h 1)) w:=by kernel_rfl
theorem ix2 (g:G) (w:World):(Instr.index 58 (.agg #[.int .i64 (g.h 0),.int .i64 (g.h 1),.int .i64 (g.h 2),.int .i64 (g.h 3),.int .i64 (g.h 4),.int .i64 (g.h 5),.int .i64 (g.h 6),.int .i64 (g.h 7),.int .i64 (g.h 8),.int .i64 (g.h 9),.int .i64 (g.h 10),.int .i64 (g.h 11),.int .i64 (g.h 12),.int .i64 (g.h 13),.int .i64 (g.h 14),.int .i64 (g.h 15)]) (.int .i64 2)).run Tryz.prog w=.ok (.int .i64 (g.h 2)) w:=by kernel_rfl
theorem ix3 (g:G) (w:World):(Instr.index 58 (.agg #[.int .i64 (g.h 0),.int .i64 (g.h 1),.int .i64 (g.h 2),.int .i64 (g.h 3),.int .i64 (g.h 4),.int .i64 (g.h 5),.int .i64 (g.h 6),.int .i64 (g.h 7),.int .i64 (g.h 8),.int .i64 (g.h 9),.int .i64 (g.h 10),.int .i64 (g.h 11),.int .i64 (g.h 12),.int .i64 (g.h 13),.int .i64 (g.h 14),.int .i64 (g.h 15)]) (.int .i64 3)).run Tryz.prog w=.ok (.int .i64 (g.h 3)) w:=by kernel_rfl
theorem ix4 (g:G) (w:World):(Instr.index 58 (.agg #[.int .i64 (g.h 0),.int .i64 (g.h 1),.int .i64 (g.h 2),.int .i64 (g.h 3),.int .i64 (g.h 4),.int .i64 (g.h 5),.int .i64 (g.h 6),.int .i64 (g.h 7),.int .i64 (g.h 8),.int .i64 (g.h 9),.int .i64 (g.h 10),.int .i64 (g.h 11),.int .i64 (g.h 12),.int .i64 (g.h 13),.int .i64 (g.h 14),.int .i64 (g.h 15)]) (.int .i64 4)).run Tryz.prog w=.ok (.int .i64 (g.h 4)) w:=by kernel_rfl
theorem ix5 (g:G) (w:World):(Instr.index 58 (.agg #[.int .i64 (g.h 0),.int .i64 (g.h 1),.int .i64 (g.h 2),.int .i64 (g.h 3),.int .i64 (g.h 4),.int .i64 (g.h 5),.int .i64 (g.h 6),.int .i64 (g.h 7),.int .i64 (g.h 8),.int .i64 (g.h 9),.int .i64 (g.h 10),.int .i64 (g.h 11),.int .i64 (g.h 12),.int .i64 (g.h 13),.int .i64 (g.h 14),.int .i64 (g.h 15)]) (.int .i64 5)).run Tryz.prog w=.ok (.int .i64 (g.h 5)) w:=by kernel_rfl
theorem ix6 (g:G) (w:World):(Instr.index 58 (.agg #[.int .i64 (g.h 0),.int .i64 (g.h 1),.int .i64 (g.h 2),.int .i64 (g.h 3),.int .i64 (g.h 4),.int .i64 (g.h 5),.int .i64 (g.h 6),.int .i64 (g.h 7),.int .i64 (g.h 8),.int .i64 (g.h 9),.int .i64 (g.h 10),.int .i64 (g.h 11),.int .i64 (g.h 12),.int .i64 (g.h 13),.int .i64 (g.h 14),.int .i64 (g.h 15)]) (.int .i64 6)).run Tryz.prog w=.ok (.int .i64 (g.h 6)) w:=by kernel_rfl
theorem ix7 (g:G) (w:World):(Instr.index 58 (.agg #[.int .i64 (g.h 0),.int .i64 (g.h 1),.int .i64 (g.h 2),.int .i64 (g.h 3),.int .i64 (g.h 4),.int .i64 (g.h 5),.int .i64 (g.h 6),.int .i64 (g.h 7),.int .i64 (g.h 8),.int .i64 (g.h 9),.int .i64 (g.h 10),.int .i64 (g.h 11),.int .i64 (g.h 12),.int .i64 (g.h 13),.int .i64 (g.h 14),.int .i64 (g.h 15)]) (.int .i64 7)).run Tryz.prog w=.ok (.int .i64 (g.h 7)) w:=by kernel_rfl
theorem ix8 (g:G) (w:World):(Instr.index 58 (.agg #[.int .i64 (g.h 0),.int .i64 (g.h 1),.int .i64 (g.h 2),.int .i64 (g.h 3),.int .i64 (g.h 4),.int .i64 (g.h 5),.int .i64 (g.h 6),.int .i64 (g.h 7),.int .i64 (g.h 8),.int .i64 (g.h 9),.int .i64 (g.h 10),.int .i64 (g.h 11),.int .i64 (g.h 12),.int .i64 (g.h 13),.int .i64 (g.h 14),.int .i64 (g.h 15)]) (.int .i64 8)).run Tryz.prog w=.ok (.int .i64 (g.h 8)) w:=by kernel_rfl
theorem ix9 (g:G) (w:World):(Instr.index 58 (.agg #[.int .i64 (g.h 0),.int .i64 (g.h 1),.int .i64 (g.h 2),.int .i64 (g.h 3),.int .i64 (g.h 4),.int .i64 (g.h 5),.int .i64 (g.h 6),.int .i64 (g.h 7),.int .i64 (g.h 8),.int .i64 (g.h 9),.int .i64 (g.h 10),.int .i64 (g.h 11),.int .i64 (g.h 12),.int .i64 (g.h 13),.int .i64 (g.h 14),.int .i64 (g.h 15)]) (.int .i64 9)).run Tryz.prog w=.ok (.int .i64 (g.h 9)) w:=by kernel_rfl
theorem ix10 (g:G) (w:World):(Instr.index 58 (.agg #[.int .i64 (g.h 0),.int .i64 (g.h 1),.int .i64 (g.h 2),.int .i64 (g.h 3),.int .i64 (g.h 4),.int .i64 (g.h 5),.int .i64 (g.h 6),.int .i64 (g.h 7),.int .i64 (g.h 8),.int .i64 (g.h 9),.int .i64 (g.h 10),.int .i64 (g.h 11),.int .i64 (g.h 12),.int .i64 (g.h 13),.int .i64 (g.h 14),.int .i64 (g.h 15)]) (.int .i64 10)).run Tryz.prog w=.ok (.int .i64 (g.h 10)) w:=by kernel_rfl
theorem ix11 (g:G) (w:World):(Instr.index 58 (.agg #[.int .i64 (g.h 0),.int .i64 (g.h 1),.int .i64 (g.h 2),.int .i64 (g.h 3),.int .i64 (g.h 4),.int .i64 (g.h 5),.int .i64 (g.h 6),.int .i64 (g.h 7),.int .i64 (g.h 8),.int .i64 (g.h 9),.int .i64 (g.h 10),.int .i64 (g.h 11),.int .i64 (g.h 12),.int .i64 (g.h 13),.int .i64 (g.h 14),.int .i64 (g.h 15)]) (.int .i64 11)).run Tryz.prog w=.ok (.int .i64 (g.h 11)) w:=by kernel_rfl
theorem ix12 (g:G) (w:World):(Instr.index 58 (.agg #[.int .i64 (g.h 0),.int .i64 (g.h 1),.int .i64 (g.h 2),.int .i64 (g.h 3),.int .i64 (g.h 4),.int .i64 (g.h 5),.int .i64 (g.h 6),.int .i64 (g.h 7),.int .i64 (g.h 8),.int .i64 (g.h 9),.int .i64 (g.h 10),.int .i64 (g.h 11),.int .i64 (g.h 12),.int .i64 (g.h 13),.int .i64 (g.h 14),.int .i64 (g.h 15)]) (.int .i64 12)).run Tryz.prog w=.ok (.int .i64 (g.h 12)) w:=by kernel_rfl
theorem ix13 (g:G) (w:World):(Instr.index 58 (.agg #[.int .i64 (g.h 0),.int .i64 (g.h 1),.int .i64 (g.h 2),.int .i64 (g.h 3),.int .i64 (g.h 4),.int .i64 (g.h 5),.int .i64 (g.h 6),.int .i64 (g.h 7),.int .i64 (g.h 8),.int .i64 (g.h 9),.int .i64 (g.h 10),.int .i64 (g.h 11),.int .i64 (g.h 12),.int .i64 (g.h 13),.int .i64 (g.h 14),.int .i64 (g.h 15)]) (.int .i64 13)).run Tryz.prog w=.ok (.int .i64 (g.h 13)) w:=by kernel_rfl
theorem ix14 (g:G) (w:World):(Instr.index 58 (.agg #[.int .i64 (g.h 0),.int .i64 (g.h 1),.int .i64 (g.h 2),.int .i64 (g.h 3),.int .i64 (g.h 4),.int .i64 (g.h 5),.int .i64 (g.h 6),.int .i64 (g.h 7),.int .i64 (g.h 8),.int .i64 (g.h 9),.int .i64 (g.h 10),.int .i64 (g.h 11),.int .i64 (g.h 12),.int .i64 (g.h 13),.int .i64 (g.h 14),.int .i64 (g.h 15)]) (.int .i64 14)).run Tryz.prog w=.ok (.int .i64 (g.h 14)) w:=by kernel_rfl
theorem ix15 (g:G) (w:World):(Instr.index 58 (.agg #[.int .i64 (g.h 0),.int .i64 (g.h 1),.int .i64 (g.h 2),.int .i64 (g.h 3),.int .i64 (g.h 4),.int .i64 (g.h 5),.int .i64 (g.h 6),.int .i64 (g.h 7),.int .i64 (g.h 8),.int .i64 (g.h 9),.int .i64 (g.h 10),.int .i64 (g.h 11),.int .i64 (g.h 12),.int .i64 (g.h 13),.int .i64 (g.h 14),.int .i64 (g.h 15)]) (.int .i64 15)).run Tryz.prog w=.ok (.int .i64 (g.h 15)) w:=by kernel_rfl
theorem nogood_neg {g:G} {j:Nat}(hj:j<16)(h:g.h j<0):¬good g:=by
 rintro ⟨P,M,hr⟩
 have:=hr.h j hj
 omega
theorem nogood_zero {g:G}(h:g.h 0≠0):¬good g:=by
 rintro ⟨P,M,hr⟩
 exact h hr.h0
theorem nogood_p {g:G}(h:fitB g.p=false):¬good g:=by
 rintro ⟨P,M,hr⟩
 rw[hr.p,nat_fit P hr.pl hr.p0] at h
 cases h
theorem nogood_m {g:G}(h:fitB g.m=false):¬good g:=by
 rintro ⟨P,M,hr⟩
 rw[hr.m,nat_fit M hr.ml hr.m0] at h
 cases h
theorem check_is (g:G) (w:World) (p0:-2 ^ 63≤g.p) (p1:g.p<2 ^ 63) (m0:-2 ^ 63≤g.m) (m1:g.m<2 ^ 63):Calls Tryz.prog 140 #[encG g] w (CheckPost g w):=by
 have hpost:∀e w',CheckPost g w e w'→CheckPost g w e w':=fun _ _ h=>h
 by_cases hp:fitB g.p=true
 ·by_cases hm:fitB g.m=true
  ·obtain⟨P,hP,pl,pb⟩:=fit_nat p0 p1 hp
   obtain⟨M,hM,ml,mb⟩:=fit_nat m0 m1 hm
   have tp:(bits .andNot .i64 g.p 65534 != 0)=false:=by
    have:=hp;unfold fitB at this;simpa using this
   have tm:(bits .andNot .i64 g.m 65534 != 0)=false:=by
    have:=hm;unfold fitB at this;simpa using this
   have HP:=Lib.hid (And.intro hP (And.intro pl pb))
   have HM:=Lib.hid (And.intro hM (And.intro ml mb))
   have HT:=Lib.hid (show (bits .and .i64 (g.m / 512) 1 == 1)=M.testBit 9 by
        have:=bit_eq M 9 ml
        rw[hM];exact this)
   clear hp hm hP pl pb hM ml mb p0 p1 m0 m1 hpost
   go_enter Tryz.func140,Tryz.ntmps140
   go_wp2
   go_loop [17] (fun i=>∃k:Nat,k≤16∧i=.int .i64 k∧Hid (∀j,j<k→0≤g.h j)∧Hid (1≤k→g.h 0=0)) (fun i=>16-(intOf i).toNat)
   case atStart=>exact⟨0,by omega,rfl,fun j hj=>absurd hj (Nat.not_lt_zero _),fun h=>absurd h (by decide)⟩
   case round=>
    obtain⟨k,hk,rfl,HK,H0⟩:=hrel
    by_cases hlt:k<16
    ·have hcase:k=0∨k=1∨k=2∨k=3∨k=4∨k=5∨k=6∨k=7∨k=8∨k=9∨k=10∨k=11∨k=12∨k=13∨k=14∨k=15:=by omega
     clear hk hlt tp tm
     rcases hcase with rfl|rfl|rfl|rfl|rfl|rfl|rfl|rfl|rfl|rfl|rfl|rfl|rfl|rfl|rfl|rfl
     ·have hix:=ix0 g
      rcases (show g.h 0<0∨(0<g.h 0)∨(g.h 0=0) by omega) with hh|hh|hh
      ·have hbad:=nogood_neg (g:=g) (j:=0) (by decide) hh
       go_wp2
       go_ret
       exact checkPost_bad hbad (by decide) (new_any _ _)
      ·have hbad:=nogood_zero (g:=g) (by omega)
       have q1:(g.h 0 != 0)=true:=by simp;omega
       go_wp2
       go_ret
       exact checkPost_bad hbad (by decide) (new_any _ _)
      ·have q1:(g.h 0 != 0)=false:=by simp[hh]
       have q2:0≤g.h 0:=by omega
       have HH:=Lib.hid hh
       clear hh
       go_wp2
       go_round
       case rel=>
        refine⟨1,by omega,by go_num,fun j hj=>?_,fun _=>HH.out⟩
        rcases Nat.lt_succ_iff_lt_or_eq.1 hj with h|rfl
        ·exact HK.out j h
        ·omega
       case measure=>simp[intOf]
     ·have hix:=ix1 g
      rcases (show g.h 1<0∨(False)∨(0≤g.h 1) by omega) with hh|hh|hh
      ·have hbad:=nogood_neg (g:=g) (j:=1) (by decide) hh
       go_wp2
       go_ret
       exact checkPost_bad hbad (by decide) (new_any _ _)
      ·exact hh.elim
      ·skip
       go_wp2
       go_round
       case rel=>
        refine⟨2,by omega,by go_num,fun j hj=>?_,fun _=>H0.out (by decide)⟩
        rcases Nat.lt_succ_iff_lt_or_eq.1 hj with h|rfl
        ·exact HK.out j h
        ·omega
       case measure=>simp[intOf]
     ·have hix:=ix2 g
      rcases (show g.h 2<0∨(False)∨(0≤g.h 2) by omega) with hh|hh|hh
      ·have hbad:=nogood_neg (g:=g) (j:=2) (by decide) hh
       go_wp2
       go_ret
       exact checkPost_bad hbad (by decide) (new_any _ _)
      ·exact hh.elim
      ·skip
       go_wp2
       go_round
       case rel=>
        refine⟨3,by omega,by go_num,fun j hj=>?_,fun _=>H0.out (by decide)⟩
        rcases Nat.lt_succ_iff_lt_or_eq.1 hj with h|rfl
        ·exact HK.out j h
        ·omega
       case measure=>simp[intOf]
     ·have hix:=ix3 g
      rcases (show g.h 3<0∨(False)∨(0≤g.h 3) by omega) with hh|hh|hh
      ·have hbad:=nogood_neg (g:=g) (j:=3) (by decide) hh
       go_wp2
       go_ret
       exact checkPost_bad hbad (by decide) (new_any _ _)
      ·exact hh.elim
      ·skip
       go_wp2
       go_round
       case rel=>
        refine⟨4,by omega,by go_num,fun j hj=>?_,fun _=>H0.out (by decide)⟩
        rcases Nat.lt_succ_iff_lt_or_eq.1 hj with h|rfl
        ·exact HK.out j h
        ·omega
       case measure=>simp[intOf]
     ·have hix:=ix4 g
      rcases (show g.h 4<0∨(False)∨(0≤g.h 4) by omega) with hh|hh|hh
      ·have hbad:=nogood_neg (g:=g) (j:=4) (by decide) hh
       go_wp2
       go_ret
       exact checkPost_bad hbad (by decide) (new_any _ _)
      ·exact hh.elim
      ·skip
       go_wp2
       go_round
       case rel=>
        refine⟨5,by omega,by go_num,fun j hj=>?_,fun _=>H0.out (by decide)⟩
        rcases Nat.lt_succ_iff_lt_or_eq.1 hj with h|rfl
        ·exact HK.out j h
        ·omega
       case measure=>simp[intOf]
     ·have hix:=ix5 g
      rcases (show g.h 5<0∨(False)∨(0≤g.h 5) by omega) with hh|hh|hh
      ·have hbad:=nogood_neg (g:=g) (j:=5) (by decide) hh
       go_wp2
       go_ret
       exact checkPost_bad hbad (by decide) (new_any _ _)
      ·exact hh.elim
      ·skip
       go_wp2
       go_round
       case rel=>
        refine⟨6,by omega,by go_num,fun j hj=>?_,fun _=>H0.out (by decide)⟩
        rcases Nat.lt_succ_iff_lt_or_eq.1 hj with h|rfl
        ·exact HK.out j h
        ·omega
       case measure=>simp[intOf]
     ·have hix:=ix6 g
      rcases (show g.h 6<0∨(False)∨(0≤g.h 6) by omega) with hh|hh|hh
      ·have hbad:=nogood_neg (g:=g) (j:=6) (by decide) hh
       go_wp2
       go_ret
       exact checkPost_bad hbad (by decide) (new_any _ _)
      ·exact hh.elim
      ·skip
       go_wp2
       go_round
       case rel=>
        refine⟨7,by omega,by go_num,fun j hj=>?_,fun _=>H0.out (by decide)⟩
        rcases Nat.lt_succ_iff_lt_or_eq.1 hj with h|rfl
        ·exact HK.out j h
        ·omega
       case measure=>simp[intOf]
     ·have hix:=ix7 g
      rcases (show g.h 7<0∨(False)∨(0≤g.h 7) by omega) with hh|hh|hh
      ·have hbad:=nogood_neg (g:=g) (j:=7) (by decide) hh
       go_wp2
       go_ret
       exact checkPost_bad hbad (by decide) (new_any _ _)
      ·exact hh.elim
      ·skip
       go_wp2
       go_round
       case rel=>
        refine⟨8,by omega,by go_num,fun j hj=>?_,fun _=>H0.out (by decide)⟩
        rcases Nat.lt_succ_iff_lt_or_eq.1 hj with h|rfl
        ·exact HK.out j h
        ·omega
       case measure=>simp[intOf]
     ·have hix:=ix8 g
      rcases (show g.h 8<0∨(False)∨(0≤g.h 8) by omega) with hh|hh|hh
      ·have hbad:=nogood_neg (g:=g) (j:=8) (by decide) hh
       go_wp2
       go_ret
       exact checkPost_bad hbad (by decide) (new_any _ _)
      ·exact hh.elim
      ·skip
       go_wp2
       go_round
       case rel=>
        refine⟨9,by omega,by go_num,fun j hj=>?_,fun _=>H0.out (by decide)⟩
        rcases Nat.lt_succ_iff_lt_or_eq.1 hj with h|rfl
        ·exact HK.out j h
        ·omega
       case measure=>simp[intOf]
     ·have hix:=ix9 g
      rcases (show g.h 9<0∨(False)∨(0≤g.h 9) by omega) with hh|hh|hh
      ·have hbad:=nogood_neg (g:=g) (j:=9) (by decide) hh
       go_wp2
       go_ret
       exact checkPost_bad hbad (by decide) (new_any _ _)
      ·exact hh.elim
      ·skip
       go_wp2
       go_round
       case rel=>
        refine⟨10,by omega,by go_num,fun j hj=>?_,fun _=>H0.out (by decide)⟩
        rcases Nat.lt_succ_iff_lt_or_eq.1 hj with h|rfl
        ·exact HK.out j h
        ·omega
       case measure=>simp[intOf]
     ·have hix:=ix10 g
      rcases (show g.h 10<0∨(False)∨(0≤g.h 10) by omega) with hh|hh|hh
      ·have hbad:=nogood_neg (g:=g) (j:=10) (by decide) hh
       go_wp2
       go_ret
       exact checkPost_bad hbad (by decide) (new_any _ _)
      ·exact hh.elim
      ·skip
       go_wp2
       go_round
       case rel=>
        refine⟨11,by omega,by go_num,fun j hj=>?_,fun _=>H0.out (by decide)⟩
        rcases Nat.lt_succ_iff_lt_or_eq.1 hj with h|rfl
        ·exact HK.out j h
        ·omega
       case measure=>simp[intOf]
     ·have hix:=ix11 g
      rcases (show g.h 11<0∨(False)∨(0≤g.h 11) by omega) with hh|hh|hh
      ·have hbad:=nogood_neg (g:=g) (j:=11) (by decide) hh
       go_wp2
       go_ret
       exact checkPost_bad hbad (by decide) (new_any _ _)
      ·exact hh.elim
      ·skip
       go_wp2
       go_round
       case rel=>
        refine⟨12,by omega,by go_num,fun j hj=>?_,fun _=>H0.out (by decide)⟩
        rcases Nat.lt_succ_iff_lt_or_eq.1 hj with h|rfl
        ·exact HK.out j h
        ·omega
       case measure=>simp[intOf]
     ·have hix:=ix12 g
      rcases (show g.h 12<0∨(False)∨(0≤g.h 12) by omega) with hh|hh|hh
      ·have hbad:=nogood_neg (g:=g) (j:=12) (by decide) hh
       go_wp2
       go_ret
       exact checkPost_bad hbad (by decide) (new_any _ _)
      ·exact hh.elim
      ·skip
       go_wp2
       go_round
       case rel=>
        refine⟨13,by omega,by go_num,fun j hj=>?_,fun _=>H0.out (by decide)⟩
        rcases Nat.lt_succ_iff_lt_or_eq.1 hj with h|rfl
        ·exact HK.out j h
        ·omega
       case measure=>simp[intOf]
     ·have hix:=ix13 g
      rcases (show g.h 13<0∨(False)∨(0≤g.h 13) by omega) with hh|hh|hh
      ·have hbad:=nogood_neg (g:=g) (j:=13) (by decide) hh
       go_wp2
       go_ret
       exact checkPost_bad hbad (by decide) (new_any _ _)
      ·exact hh.elim
      ·skip
       go_wp2
       go_round
       case rel=>
        refine⟨14,by omega,by go_num,fun j hj=>?_,fun _=>H0.out (by decide)⟩
        rcases Nat.lt_succ_iff_lt_or_eq.1 hj with h|rfl
        ·exact HK.out j h
        ·omega
       case measure=>simp[intOf]
     ·have hix:=ix14 g
      rcases (show g.h 14<0∨(False)∨(0≤g.h 14) by omega) with hh|hh|hh
      ·have hbad:=nogood_neg (g:=g) (j:=14) (by decide) hh
       go_wp2
       go_ret
       exact checkPost_bad hbad (by decide) (new_any _ _)
      ·exact hh.elim
      ·skip
       go_wp2
       go_round
       case rel=>
        refine⟨15,by omega,by go_num,fun j hj=>?_,fun _=>H0.out (by decide)⟩
        rcases Nat.lt_succ_iff_lt_or_eq.1 hj with h|rfl
        ·exact HK.out j h
        ·omega
       case measure=>simp[intOf]
     ·have hix:=ix15 g
      rcases (show g.h 15<0∨(False)∨(0≤g.h 15) by omega) with hh|hh|hh
      ·have hbad:=nogood_neg (g:=g) (j:=15) (by decide) hh
       go_wp2
       go_ret
       exact checkPost_bad hbad (by decide) (new_any _ _)
      ·exact hh.elim
      ·skip
       go_wp2
       go_round
       case rel=>
        refine⟨16,by omega,by go_num,fun j hj=>?_,fun _=>H0.out (by decide)⟩
        rcases Nat.lt_succ_iff_lt_or_eq.1 hj with h|rfl
        ·exact HK.out j h
        ·omega
       case measure=>simp[intOf]
    ·obtain rfl:k=16:=by omega
     clear hlt hk
     by_cases h9:M.testBit 9=true
     ·have tt:(bits .and .i64 (g.m / 512) 1 == 1)=true:=HT.out.trans h9
      have hbad:¬good g:=by
       rintro ⟨P2,M2,hr⟩
       have e:M2=M:=by have:=hr.m;have:=HM.out.1;omega
       have:=hr.m9
       rw[e,h9] at this;cases this
      go_wp2
      go_ret
      exact checkPost_bad hbad (by decide) (new_any _ _)
     ·have h9':M.testBit 9=false:=by simpa using h9
      have tt:(bits .and .i64 (g.m / 512) 1 == 1)=false:=HT.out.trans h9'
      by_cases hz:g.h 9=0
      ·have hgood:good g:=⟨P,M,HP.out.1,HM.out.1,HP.out.2.1,HP.out.2.2,HM.out.2.1,HM.out.2.2,h9',HK.out,H0.out (by decide),hz⟩
       have HG:=Lib.hid hgood
       have z2:(g.h 9 != 0)=false:=by simp[hz]
       clear hgood h9 h9' hz
       go_wp2
       go_ret
       exact⟨0,rfl,new_any _ _,.inl ⟨rfl,HG.out⟩⟩
      ·have hbad:¬good g:=by
        rintro ⟨P2,M2,hr⟩
        exact hz hr.h9
       have hz':(g.h 9 != 0)=true:=by simp[hz]
       have HBD:=Lib.hid hbad
       clear hbad h9 h9' hz
       go_wp2
       go_ret
       exact checkPost_bad HBD.out (by decide) (new_any _ _)
  ·have hbad:=nogood_m (g:=g) (by simpa using hm)
   have tm:(bits .andNot .i64 g.m 65534 != 0)=true:=by
    have:fitB g.m=false:=by simpa using hm
    unfold fitB at this;simpa using this
   have tp:(bits .andNot .i64 g.p 65534 != 0)=false:=by
    have:=hp;unfold fitB at this;simpa using this
   have HBD:=Lib.hid hbad
   clear hbad hm hp p0 p1 m0 m1
   go_enter Tryz.func140,Tryz.ntmps140
   go_wp2
   go_ret
   exact checkPost_bad HBD.out (by decide) (new_any _ _)
 ·have hbad:=nogood_p (g:=g) (by simpa using hp)
  have tp:(bits .andNot .i64 g.p 65534 != 0)=true:=by
   have:fitB g.p=false:=by simpa using hp
   unfold fitB at this;simpa using this
  have HBD:=Lib.hid hbad
  clear hbad hp p0 p1 m0 m1
  go_enter Tryz.func140,Tryz.ntmps140
  go_wp2
  go_ret
  exact checkPost_bad HBD.out (by decide) (new_any _ _)
end Go.Proofs.YtfkepfncgdlgoaaGreatDoor.SigLaw
namespace Go.Proofs.YtfkepfncgdlgoaaGreatDoor.SigLaw
open Go.RowKit
def cellsA (g:G):Array Value:=#[.int .i64 g.p,.int .i64 g.m,.int .i64 (g.h 0),.int .i64 (g.h 1),.int .i64 (g.h 2),.int .i64 (g.h 3),.int .i64 (g.h 4),.int .i64 (g.h 5),.int .i64 (g.h 6),.int .i64 (g.h 7),.int .i64 (g.h 8),.int .i64 (g.h 9),.int .i64 (g.h 10),.int .i64 (g.h 11),.int .i64 (g.h 12),.int .i64 (g.h 13),.int .i64 (g.h 14),.int .i64 (g.h 15)]
theorem cellsA_one (g:G):(cellsA g).all (·.oneCell')=true:=by simp[cellsA,Value.oneCell']
def load58 (v:Value):Sem Value:=Instr.loadAt 60 v
def store58 (p v:Value):Sem Unit:=Instr.storeAt 60 p v
theorem load58_eq (v:Value):Instr.loadAt 60 v=load58 v:=rfl
theorem store58_eq (p v:Value):Instr.storeAt 60 p v=store58 p v:=rfl
theorem zero58 (w:World):(zeroValue 60).run Tryz.prog w=.ok (.agg (cellsA zeroG)) w:=Tryz.zeroValue60 w
theorem cells58 (g:G):Value.cells (.agg (cellsA g))=cellsA g:=rfl
def Row (w:World) (b:Nat) (g:G):Prop:=w.heap[b]?=some (.cells (cellsA g) 60 (0,0))
section
variable {w:World} {b:Nat} {g:G}
theorem Row.lt (h:Row w b g):b<w.heap.size:=by
 rcases Nat.lt_or_ge b w.heap.size with q|q
 ·exact q
 ·unfold Row at h;rw[Array.getElem?_eq_none q] at h;cases h
theorem Row.load (h:Row w b g):(load58 (.pointer (some ⟨b,0,none⟩))).run Tryz.prog w=.ok (.agg (cellsA g)) w:=by
 simp only[load58,Instr.loadAt,Instr.sureAddr,Sem.run_bind,Sem.run_pure,Result.andThen]
 exact run_loadVar_row w b 60 60 (cellsA g) (0,0) _ h Tryz.underlying60 rfl (by kernel_rfl)
theorem Row.loadVar (h:Row w b g):(Go.loadVar 60 ⟨b,0,none⟩).run Tryz.prog w=.ok (.agg (cellsA g)) w:=
 run_loadVar_row w b 60 60 (cellsA g) (0,0) _ h Tryz.underlying60 rfl (by kernel_rfl)
theorem Row.store (h:Row w b g) (g':G):(store58 (.pointer (some ⟨b,0,none⟩)) (.agg (cellsA g'))).run Tryz.prog w=.ok () (w.setRow b (cellsA g')):=by
 simp only[store58,Instr.storeAt,Instr.sureAddr,Sem.run_bind,Sem.run_pure,Result.andThen]
 exact run_storeVar_row w b 60 60 (cellsA g) (cellsA g') h (by kernel_rfl) rfl (cellsA_one g')
theorem Row.cell (h:Row w b g) (i:Nat):w.cell? ⟨b,i,none⟩=(cellsA g)[i]?:=cell_of_row w b i _ 60 (0,0) h
theorem Row.c0 (h:Row w b g):w.cell? ⟨b,0,none⟩=some (.int .i64 g.p):=h.cell 0
theorem Row.c1 (h:Row w b g):w.cell? ⟨b,1,none⟩=some (.int .i64 g.m):=h.cell 1
theorem Row.ch (h:Row w b g) {k:Nat}(hk:k<16):w.cell? ⟨b,2+k,none⟩=some (.int .i64 (g.h k)):=by
 rw[h.cell]
 have:k=0∨k=1∨k=2∨k=3∨k=4∨k=5∨k=6∨k=7∨k=8∨k=9∨k=10∨k=11∨k=12∨k=13∨k=14∨k=15:=by omega
 rcases this with rfl|rfl|rfl|rfl|rfl|rfl|rfl|rfl|rfl|rfl|rfl|rfl|rfl|rfl|rfl|rfl <;> rfl
theorem Row.fz (h:Row w b g) (i:Nat):w.frozen? ⟨b,i,none⟩=false:=by
 unfold Row at h
 simp[World.frozen?,h]
theorem Row.keepB {w':World} {B:Nat}(h:Row w b g)(hb:Below B w w')(hB:b<B):Row w' b g:=(hb.block b hB).trans h
theorem Row.keep {w':World}(h:Row w b g)(hb:Below w.heap.size w w'):Row w' b g:=h.keepB hb h.lt
theorem Row.alloc (h:Row w b g) (o:Obj):Row (w.alloc o) b g:=h.keep ((Below.refl _ _).alloc (Nat.le_refl _) o)
theorem row_new (w:World) (g:G):Row (w.alloc (.cells (cellsA g) 60)) w.heap.size g:=heap_alloc_new w _
theorem Row.setRow (h:Row w b g) (g':G):Row (w.setRow b (cellsA g')) b g':=by
 unfold Row at *
 simp only[World.setRow,Array.getElem?_modify,if_true,h,Option.map_some]
theorem Row.setRowO (h:Row w b g) {c:Nat}(hc:c≠b) (C:Array Value):Row (w.setRow c C) b g:=by
 unfold Row at *
 simp only[World.setRow,Array.getElem?_modify]
 rw[if_neg hc]
 exact h
theorem Row.setC (h:Row w b g) {i:Nat} {g':G} {v:Value}(he:(cellsA g).setIfInBounds i v=cellsA g'):Row (w.setCell ⟨b,i,none⟩ v) b g':=by
 unfold Row at *
 simp only[World.setCell,Array.getElem?_modify,if_true,h,Option.map_some,he,Option.isSome_none,Bool.false_eq_true,if_false]
theorem Row.setP (h:Row w b g) (x:Int):Row (w.setCell ⟨b,0,none⟩ (.int .i64 x)) b ⟨x,g.m,g.h⟩:=h.setC rfl
theorem Row.setM (h:Row w b g) (x:Int):Row (w.setCell ⟨b,1,none⟩ (.int .i64 x)) b ⟨g.p,x,g.h⟩:=h.setC rfl
theorem Row.setO (h:Row w b g) {c i:Nat}(hc:c≠b) (v:Value):Row (w.setCell ⟨c,i,none⟩ v) b g:=by
 unfold Row at *
 rw[Below.heap_setCell _ _ _ _ (by simpa using Ne.symm hc)]
 exact h
theorem below_setRow {B c:Nat} {u:World}(h:Below B u w)(hc:B≤c) (C:Array Value):Below B u (w.setRow c C):=
 h.trans ⟨rfl,rfl,rfl,by simp[World.setRow],fun k hk=>by simp only[World.setRow,Array.getElem?_modify];rw[if_neg (by omega)]⟩
end
theorem check_c (g:G) (w:World) (p0:-2 ^ 63≤g.p) (p1:g.p<2 ^ 63) (m0:-2 ^ 63≤g.m) (m1:g.m<2 ^ 63):Calls Tryz.prog 140 #[.agg (cellsA g)] w (CheckPost g w):=check_is g w p0 p1 m0 m1
attribute [local go_sem ↓] load58_eq store58_eq zero58 cells58
theorem ne_zero {en:Int}(h:en≠0):(en != 0)=true:=by simp[h]
theorem wrap_pow {k:Nat}(hk:k≤15):wrap64 (2 ^ k)=(2:Int) ^ k:=by
 have h1:=one_shift k (by omega)
 have e:((2:Int) ^ k)=((1 <<< k:Nat):Int):=by rw[Nat.one_shiftLeft];norm_cast
 rw[e]
 generalize 1 <<< k=x at *
 unfold wrap64
 omega
structure Two (w w1:World) (b c:Nat) (g g':G):Prop where
 B:Below w.heap.size w w1
 R:Row w1 b g
 Z:Row w1 c g'
 hb:w.heap.size≤b
 hc:w.heap.size≤c
 ne:b≠c
theorem two_new (w:World) (g:G):Two w ((w.alloc (.cells (cellsA g) 60)).alloc (.cells (cellsA zeroG) 60)) w.heap.size (w.heap.size+1) g zeroG:=
 ⟨Go.Joins.below_alloc2 _ _ _,(row_new w g).alloc _,by have:=row_new (w.alloc (.cells (cellsA g) 60)) zeroG;rw[World.size_alloc] at this;exact this,Nat.le_refl _,by omega,by omega⟩
section
variable {w w1 w2:World} {b c:Nat} {g g':G}
theorem Two.keep (h:Two w w1 b c g g')(hb:Below w1.heap.size w1 w2):Two w w2 b c g g':=⟨h.B.trans (hb.mono h.B.size),h.R.keep hb,h.Z.keep hb,h.hb,h.hc,h.ne⟩
theorem Two.drew (h:Two w w1 b c g g'):Two w w1.drew b c g g':=h.keep (Below.refl _ _).drew
theorem Two.store (h:Two w w1 b c g g') (g2:G):Two w (w1.setRow c (cellsA g2)) b c g g2:=⟨below_setRow h.B h.hc _,h.R.setRowO h.ne.symm _,h.Z.setRow g2,h.hb,h.hc,h.ne⟩
theorem Two.setP (h:Two w w1 b c g g') (x:Int):Two w (w1.setCell ⟨b,0,none⟩ (.int .i64 x)) b c ⟨x,g.m,g.h⟩ g':=⟨h.B.setCell h.hb _,h.R.setP x,h.Z.setO h.ne _,h.hb,h.hc,h.ne⟩
theorem Two.setM (h:Two w w1 b c g g') (x:Int):Two w (w1.setCell ⟨b,1,none⟩ (.int .i64 x)) b c ⟨g.p,x,g.h⟩ g':=⟨h.B.setCell h.hb _,h.R.setM x,h.Z.setO h.ne _,h.hb,h.hc,h.ne⟩
end
def BB (g:G):Prop:=(-2 ^ 63≤g.p∧g.p<2 ^ 63) ∧ -2 ^ 63≤g.m∧g.m<2 ^ 63
theorem check_b (g:G) (w:World)(h:BB g):Calls Tryz.prog 140 #[.agg (cellsA g)] w (CheckPost g w):=check_c g w h.1.1 h.1.2 h.2.1 h.2.2
end Go.Proofs.YtfkepfncgdlgoaaGreatDoor.SigLaw
