/- Whole rows, and parts of rows, by value: of any struct or array type. The walks of what a kernel begins with: pipe.New, wheel.New, space.New, space's Make. The memory of all spaces: what holds of it, and what keeps it. No walk here. Runs of package spread with any tasks of fair shares: their cells, what becomes of them. The walks of package spread at any run: find, on, waits, better, best. -/
import Derived.Test.YtfkepfncgdlgoaaGreatDoorDisk2
import Derived.Deep.WholeRow
import Derived.Deep.MidRow
import Derived.Deep.Cut
import Derived.Deep.CutRange
import Derived.Deep.DeepCutAuto
import Derived.Deep.RegionWith
import Derived.ChangeKeysEq
namespace Go.Proofs.YtfkepfncgdlgoaaGreatDoor
open Go.RowKit
open Go.RowKit Go.Maps
set_option linter.unusedVariables false
set_option linter.unusedSimpArgs false
set_option maxRecDepth 100000
set_option maxHeartbeats 400000
def ldR (T:Nat) (v:Value):Sem Value:=Instr.loadAt T v
def stR (T:Nat) (p v:Value):Sem Unit:=Instr.storeAt T p v
def ixR (T:Nat) (v i:Value):Sem Value:=Instr.index T v i
def bdR (T:Nat) (ps:Array (Nat×Value)):Sem Value:=Instr.build T ps
def Row (w:World) (b:Nat) (T:Nat) (c:Array Value):Prop:=w.heap[b]?=some (.cells c T (0,0))
def putA (c:Array Value) (o:Nat) (cs:List Value):Array Value:=(c.toList.take o++cs++c.toList.drop (o+cs.length)).toArray
theorem putA_size {c:Array Value} {o:Nat} {cs:List Value}(h:o+cs.length≤c.size):(putA c o cs).size=c.size:=by
 simp[putA];omega
theorem putA_get {c:Array Value} {o:Nat} {cs:List Value}(h:o+cs.length≤c.size) (j:Nat):(putA c o cs)[j]?=if o≤j∧j<o+cs.length then cs[j-o]? else c[j]?:=by
 simp only[putA,List.getElem?_toArray]
 split
 ·rename_i hj
  rw[List.append_assoc,List.getElem?_append_right (by simp;omega),List.getElem?_append_left (by simp;omega)]
  simp
  congr 1
  omega
 ·rename_i hj
  by_cases h1:j<o
  ·rw[List.append_assoc,List.getElem?_append_left (by simp;omega)]
   simp[List.getElem?_take,h1]
  ·rw[List.getElem?_append_right (by simp;omega)]
   simp[List.getElem?_drop]
   congr 1
   omega
theorem putA_set {c:Array Value} {o:Nat} {v:Value} {cs:List Value}(h:o+1+cs.length≤c.size):putA (c.setIfInBounds o v) (o+1) cs=putA c o (v::cs):=by
 apply Array.ext_getElem?
 intro j
 rw[putA_get (by simp;omega),putA_get (by simp;omega)]
 simp only[List.length_cons,Array.getElem?_setIfInBounds]
 by_cases h0:j=o
 ·subst h0
  rw[if_neg (by omega),if_pos rfl,if_pos (by omega),if_pos (by omega)]
  simp
 ·by_cases h1:o+1≤j∧j<o+1+cs.length
  ·rw[if_pos h1,if_pos (by omega),show j-o=(j-(o+1))+1 by omega]
   simp
  ·rw[if_neg h1,if_neg (fun e=>h0 e.symm),if_neg (by omega)]
section
variable {w w':World} {b T:Nat} {c:Array Value}
theorem Row.lt (h:Row w b T c):b<w.heap.size:=(Array.getElem?_eq_some_iff.1 h).1
theorem Row.keepB {B:Nat}(h:Row w b T c)(hb:Below B w w')(hB:b<B):Row w' b T c:=(hb.block b hB).trans h
theorem Row.keep (h:Row w b T c)(hb:Below w.heap.size w w'):Row w' b T c:=h.keepB hb h.lt
theorem Row.upd {S:Nat→Prop}(h:Row w b T c)(hu:Upd S w w')(hn:¬S b):Row w' b T c:=(hu.block b h.lt hn).trans h
theorem Row.kept {row:Option Nat}(h:Row w b T c)(hg:w.grownBy w' row)(hne:some b≠row):Row w' b T c:=(hg.block b h.lt hne).trans h
theorem Row.alloc (h:Row w b T c) (o:Obj):Row (w.alloc o) b T c:=h.keep ((Below.refl _ _).alloc (Nat.le_refl _) o)
theorem Row.drew (h:Row w b T c):Row w.drew b T c:=h
theorem Row.drewN (h:Row w b T c) (n:Nat):Row (w.drewN n) b T c:=h
theorem Row.cell (h:Row w b T c) (i:Nat):w.cell? ⟨b,i,none⟩=c[i]?:=cell_of_row w b i _ T (0,0) h
theorem Row.fz (h:Row w b T c) (i:Nat):w.frozen? ⟨b,i,none⟩=false:=by
 unfold Row at h
 simp[World.frozen?,h]
theorem row_new (w:World) (T:Nat) (c:Array Value):Row (w.alloc (.cells c T)) w.heap.size T c:=heap_alloc_new w _
theorem Row.setRow (h:Row w b T c) (c':Array Value):Row (w.setRow b c') b T c':=setRow_heap w b _ _ T _ h
theorem Row.setRowO (h:Row w b T c) {d:Nat}(hd:d≠b) (c':Array Value):Row (w.setRow d c') b T c:=(setRow_other w d b c' (fun e=>hd e.symm)).trans h
theorem Row.setCell (h:Row w b T c) (i:Nat) (v:Value):w.setCell ⟨b,i,none⟩ v=w.setRow b (c.setIfInBounds i v):=setCell_eq_setRow w b i c T (0,0) v h
theorem Row.setCells:∀(cs:List Value) {w:World} {c:Array Value} {o:Nat},Row w b T c→o+cs.length≤c.size→w.setCells b o cs=w.setRow b (putA c o cs)
 | [],w,c,o,h,_=>by
  have e:putA c o []=c:=by simp[putA]
  rw[e]
  exact(setRow_self w b c T (0,0) h).symm
 | v::cs,w,c,o,h,hl=>by
  rw[World.setCells,h.setCell o v,Row.setCells cs (h.setRow _) (by simp at hl ⊢;omega),setRow_setRow,putA_set (by simp at hl;omega)]
theorem Row.range (h:Row w b T c) (o n:Nat):w.rangeAt b o (c.extract o (o+n)).toList:=World.rangeAt_of_block h o n
theorem Row.there (h:Row w b T c) {o n:Nat}(hn:o+n≤c.size):w.there b o n:=fun j hj=>⟨by rw[h.cell];simp;omega,h.fz _⟩
theorem Row.ld (h:Row w b T c) {o n U:Nat} {d:TypeDesc}(hn:o+n≤c.size)(hu:Tryz.prog.underlying U=some d)(hd:d.isRow=true)(hi:(Tryz.prog.info? U).map (·.size)=some n) :
  (ldR U (.pointer (some ⟨b,o,none⟩))).run Tryz.prog w=.ok (.agg (c.extract o (o+n))) w:=by
 have:=run_loadAt_mid (P:=Tryz.prog) w b o U _ d (h.range o n) hu hd (by rw[hi];simp;omega)
 rw[Array.toArray_toList] at this
 exact this
theorem Row.ld0 (h:Row w b T c) {d:TypeDesc}(hu:Tryz.prog.underlying T=some d)(hd:d.isRow=true)(hi:(Tryz.prog.info? T).map (·.size)=some c.size) :
  (ldR T (.pointer (some ⟨b,0,none⟩))).run Tryz.prog w=.ok (.agg c) w:=by
 have:=h.ld (o:=0) (n:=c.size) (by omega) hu hd hi
 simpa using this
theorem Row.ldV (h:Row w b T c) {d:TypeDesc}(hu:Tryz.prog.underlying T=some d)(hd:d.isRow=true)(hi:(Tryz.prog.info? T).map (·.size)=some c.size):(loadVar T ⟨b,0,none⟩).run Tryz.prog w=.ok (.agg c) w:=by
 have:=run_loadVar_mid (P:=Tryz.prog) w b 0 T _ d (h.range 0 c.size) hu hd (by rw[hi];simp)
 rw[Array.toArray_toList] at this
 simpa using this
theorem Row.st (h:Row w b T c) {o U:Nat} {cs:Array Value}(hn:o+cs.size≤c.size)(hi:(Tryz.prog.info? U).map (·.size)=some cs.size)(h1:cs.all (·.oneCell')=true) :
  (stR U (.pointer (some ⟨b,o,none⟩)) (.agg cs)).run Tryz.prog w=.ok () (w.setRow b (putA c o cs.toList)):=by
 rw[← h.setCells cs.toList (by simpa using hn)]
 exact run_storeAt_mid w b o U cs (h.there hn) hi h1
theorem Row.st0 (h:Row w b T c) {cs:Array Value}(hn:cs.size=c.size)(hi:(Tryz.prog.info? T).map (·.size)=some cs.size)(h1:cs.all (·.oneCell')=true) :
  (stR T (.pointer (some ⟨b,0,none⟩)) (.agg cs)).run Tryz.prog w=.ok () (w.setRow b cs):=by
 have:=h.st (o:=0) (U:=T) (cs:=cs) (by omega) hi h1
 rw[this]
 have e:putA c 0 cs.toList=cs:=?_
 ·rw[e]
 apply Array.ext_getElem?
 intro j
 rw[putA_get (by simp;omega)]
 simp only[Nat.zero_le,true_and,Nat.zero_add,Nat.sub_zero,Array.length_toList,Array.getElem?_toList]
 split
 ·rfl
 ·rw[Array.getElem?_eq_none (by omega),Array.getElem?_eq_none (by omega)]
end
theorem results_cell1 {fn:Func} {p:Tmp} {ty:TypeId}(h:fn.results=#[.cell p ty]) (tmps:Array Value) (P:Program) (w:World) :
  (results fn tmps).run P w=((asAddr (tmps.getD p undef)).run P w).andThen fun a w1=>(loadVar ty a).run P w1:=by
 unfold results
 rw[h]
 simp
theorem results_cell_tmp {fn:Func} {p u:Tmp} {ty:TypeId}(h:fn.results=#[.cell p ty,.tmp u]) (tmps:Array Value) (P:Program) (w:World) :
  (results fn tmps).run P w=((asAddr (tmps.getD p undef)).run P w).andThen fun a w1=>((loadVar ty a).run P w1).andThen fun v w2=>.ok (.tuple #[v,tmps.getD u undef]) w2:=by
 unfold results
 rw[h]
 simp
theorem results_tmp4 {fn:Func} {t u x y:Tmp}(h:fn.results=#[.tmp t,.tmp u,.tmp x,.tmp y]) (tmps:Array Value) (P:Program) (w:World) :
  (results fn tmps).run P w=.ok (.tuple #[tmps.getD t undef,tmps.getD u undef,tmps.getD x undef,tmps.getD y undef]) w:=by
 unfold results
 rw[h]
 simp
theorem st0_new (w:World) {T:Nat} {c cs:Array Value}(hn:cs.size=c.size)(hi:(Tryz.prog.info? T).map (·.size)=some cs.size)(h1:cs.all (·.oneCell')=true) :
  (stR T (.pointer (some ⟨w.heap.size,0,none⟩)) (.agg cs)).run Tryz.prog (w.alloc (.cells c T))=.ok () (w.alloc (.cells cs T)):=by
 rw[(row_new w T c).st0 hn hi h1,World.setRow_alloc_new]
def pipA:Array Value:=Array.replicate 16 (.pointer none)
theorem pnew_is (w:World):Calls Tryz.prog 25 #[] w fun e w'=>e=.returned (.pointer (some ⟨w.heap.size,0,none⟩))∧w'=w.alloc (.cells pipA 155):=by
 go_enter Tryz.func25,Tryz.ntmps25
 go_wp2_with fail
 go_ret
 exact⟨rfl,rfl⟩
theorem wnew_is (w:World):Calls Tryz.prog 26 #[.int .u32 0] w fun e w'=>e=.returned (.pointer (some ⟨w.heap.size,0,none⟩))∧w'=w.alloc (.cells #[.int .u32 0,.slice none 0 0] 158):=by
 go_enter Tryz.func26,Tryz.ntmps26
 go_wp2_with fail
 go_ret
 exact⟨rfl,rfl⟩
theorem spnew_is (w:World):Calls Tryz.prog 30 #[.int .i64 64,.int .i64 64] w fun e w'=>e=.returned (.tuple #[.pointer (some ⟨w.heap.size+1,0,none⟩),.int .i64 0])∧w'=(w.alloc (.map #[] 0)).alloc (.cells #[.int .i64 64,.int .i64 64,.int .i64 0,.slice none 0 0,.map (some w.heap.size)] 179):=by
 have hmm:=@run_makeMap Tryz.prog
 go_enter Tryz.func30,Tryz.ntmps30
 go_wp2_with fail
 go_ret2
 exact⟨rfl,rfl⟩
theorem grown_trans {a b c:World} {row:Option Nat}(h:a.grownBy b row) (k:b.grownBy c row):a.grownBy c row:=⟨k.os.trans h.os,k.tape.trans h.tape,k.output.trans h.output,Nat.le_trans h.size k.size,fun i hi hne=>(k.block i (Nat.lt_of_lt_of_le hi h.size) hne).trans (h.block i hi hne)⟩
theorem map_is_nil (w:World):(binOp .eql 180 (.map none) (.map none)).run Tryz.prog w=.ok (.bool true) w:=by kernel_rfl
theorem spmake_is {w:World} {M so:Nat} (m4:w.cell? ⟨M,4,none⟩=some (.map (some so))) (om:OMap w so 0 (fun _=>none)):Calls Tryz.prog 31 #[.pointer (some ⟨M,0,none⟩)] w fun e w'=>e=.returned (.tuple #[.int .i64 1,.int .i64 0])∧OMap w' so 1 (fun k=>if k=1 then some w.heap.size else none)∧IMap w' w.heap.size 0 (fun _=>none)∧w.grownBy w' (some so):=by
 have hmm:=@run_makeMap Tryz.prog
 have l1:(Instr.lookup 176 (.map (some so)) (.int .i64 1) false).run Tryz.prog w=.ok (.map none) w:=om.look (by decide)
 have l2:=map_is_nil w
 have hg0:=World.grownBy_alloc w (.map #[] 0) none
 have hso:so<w.heap.size:=by
  obtain⟨D,hD,_⟩:=om
  exact hD.lt
 obtain⟨w2,hup,om2,hg2⟩:=(om.kept hg0 (by simp)).put (k:=1) (by decide) (by unfold maxLen;omega) w.heap.size
 have hup:(Instr.mapUpdate 176 (.map (some so)) (.int .i64 1) (.map (some w.heap.size))).run Tryz.prog (w.alloc (.map #[] 0))=.ok () w2:=hup
 have HI:=Lib.hid ((IMap.made w).kept hg2 (by intro e;injection e with e;omega))
 have HG:=Lib.hid (show w.grownBy w2 (some so) from grown_trans (World.grownBy_alloc w (.map #[] 0) (some so)) hg2)
 have HO:=Lib.hid om2
 clear om om2 hg2 hg0 hso
 go_enter Tryz.func31,Tryz.ntmps31
 go_wp2_with fail
 refine wp_loop_rounds 1 ?_
 rw[rounds_succ]
 go_wp2_with fail
 go_ret2
 exact⟨rfl,HO.out,HI.out,HG.out⟩
structure PgAt (w:World) (g:Nat) (d:Nat→Int) (u:Int)(h:Bool):Prop where
 lt:g<w.heap.size
 dc:∀j,j<16→w.cell? ⟨g,j,none⟩=some (.int .u8 (d j))
 us:w.cell? ⟨g,16,none⟩=some (.int .i64 u)
 hr:w.cell? ⟨g,17,none⟩=some (.bool h)
 ak:∃a,w.cell? ⟨g,18,none⟩=some (.int .i64 a)
 fz:∀j,w.frozen? ⟨g,j,none⟩=false
 rw:∃C,Row w g 340 C
section
variable {w w':World} {g:Nat} {d:Nat→Int} {u:Int} {h:Bool}
theorem PgAt.upd {S:Nat→Prop} (p:PgAt w g d u h)(hu:Upd S w w')(hn:¬S g):PgAt w' g d u h:=by
 have k:∀ {o v},w.cell? ⟨g,o,none⟩=some v→w'.cell? ⟨g,o,none⟩=some v:=fun hc=>(hu.cell p.lt hn).trans hc
 obtain⟨a,ha⟩:=p.ak
 exact⟨Nat.lt_of_lt_of_le p.lt hu.size,fun j hj=>k (p.dc j hj),k p.us,k p.hr,⟨a,k ha⟩,fun j=>(hu.frozen p.lt hn).trans (p.fz j),by obtain⟨C,hC⟩:=p.rw;exact⟨C,hC.upd hu hn⟩⟩
end
structure MS where
 pv:Value
 pl:List Nat
 nS:Nat
 S:Int→Option Nat
 nF:Nat→Nat
 F:Nat→Int→Option (Nat×Int)
 d:Nat→Nat→Int
 u:Nat→Int
 h:Nat→Bool
def mB (M so:Nat) (m:MS) (k:Nat):Prop:=k=M∨k=so∨m.pv.ownBlock=some k∨(∃s,m.S s=some k)∨k∈m.pl
def pp (l:List Nat):List Value:=l.map fun g=>.pointer (some ⟨g,0,none⟩)
structure MemG (w:World) (M so:Nat) (fr sl:Int) (m:MS):Prop where
 m0:w.cell? ⟨M,0,none⟩=some (.int .i64 fr)
 m1:w.cell? ⟨M,1,none⟩=some (.int .i64 sl)
 m2:∃ck,w.cell? ⟨M,2,none⟩=some (.int .i64 ck)
 m3:w.cell? ⟨M,3,none⟩=some m.pv
 m4:w.cell? ⟨M,4,none⟩=some (.map (some so))
 mz:∀j,w.frozen? ⟨M,j,none⟩=false
 mlt:M<w.heap.size
 ps:w.ownsRow 0 264 1 m.pv m.pl.length (pp m.pl)
 om:OMap w so m.nS m.S
 im:∀s b,m.S s=some b→IMap w b (m.nF b) (m.F b)
 pg:∀g,g∈m.pl→PgAt w g (m.d g) (m.u g) (m.h g)
 n1:so≠M
 n2:∀b,m.pv.ownBlock=some b→b≠M∧b≠so
 n3:∀s b,m.S s=some b→b≠M∧b≠so∧m.pv.ownBlock≠some b
 n4:∀g,g∈m.pl→g≠M∧g≠so∧m.pv.ownBlock≠some g∧∀s,m.S s≠some g
 n5:∀s s' b,m.S s=some b→m.S s'=some b→s=s'
 nd:m.pl.Nodup
section
variable {w w':World} {M so g:Nat} {fr sl:Int} {m:MS}
theorem OMap.upd {S:Nat→Prop} {b n:Nat} {f:Int→Option Nat}(h:OMap w b n f)(hu:Upd S w w')(hn:¬S b):OMap w' b n f:=by
 obtain⟨D,hD,hm,hf⟩:=h
 obtain⟨es,ck,hb,hrest⟩:=hD
 exact⟨D,⟨es,ck,(hu.block b (Array.getElem?_eq_some_iff.1 hb).1 hn).trans hb,hrest⟩,hm,hf⟩
theorem IMap.upd {S:Nat→Prop} {b n:Nat} {f:Int→Option (Nat×Int)}(h:IMap w b n f)(hu:Upd S w w')(hn:¬S b):IMap w' b n f:=by
 obtain⟨D,hD,hm,hf⟩:=h
 obtain⟨es,ck,hb,hrest⟩:=hD
 exact⟨D,⟨es,ck,(hu.block b (Array.getElem?_eq_some_iff.1 hb).1 hn).trans hb,hrest⟩,hm,hf⟩
theorem MemG.upd {S:Nat→Prop}(h:MemG w M so fr sl m)(hu:Upd S w w')(hn:∀k,mB M so m k→¬S k):MemG w' M so fr sl m:=by
 have hM:=hn M (.inl rfl)
 have k:∀ {o v},w.cell? ⟨M,o,none⟩=some v→w'.cell? ⟨M,o,none⟩=some v:=fun hc=>(hu.cell h.mlt hM).trans hc
 obtain⟨ck,hck⟩:=h.m2
 exact⟨k h.m0,k h.m1,⟨ck,k hck⟩,k h.m3,k h.m4,fun j=>(hu.frozen h.mlt hM).trans (h.mz j),Nat.lt_of_lt_of_le h.mlt hu.size,hu.owns h.ps (fun g hg=>hn g (.inr (.inr (.inl hg)))),h.om.upd hu (hn so (.inr (.inl rfl))),fun s b hs=>(h.im s b hs).upd hu (hn b (.inr (.inr (.inr (.inl ⟨s,hs⟩))))),fun g hg=>(h.pg g hg).upd hu (hn g (.inr (.inr (.inr (.inr hg))))),h.n1,h.n2,h.n3,h.n4,h.n5,h.nd⟩
end
structure Tk where
 t:Int
 v:Int
 rd:Bool
 cpu:Int
structure TkIn (C:Array Value) (o:Nat) (pin:Int) (x:Tk):Prop where
 c0:C[o]?=some (.int .i64 x.t)
 c1:C[o+1]?=some (.int .i64 1)
 c2:C[o+2]?=some (.int .i64 10)
 c3:C[o+3]?=some (.int .i64 0)
 c4:C[o+4]?=some (.int .i64 0)
 c5:C[o+5]?=some (.int .i64 0)
 c6:C[o+6]?=some (.int .i64 0)
 c7:C[o+7]?=some (.int .i64 0)
 c8:C[o+8]?=some (.int .i64 0)
 c9:C[o+9]?=some (.int .i64 x.v)
 c10:∃s,C[o+10]?=some (.int .i64 s)
 c11:C[o+11]?=some (.int .i64 pin)
 c12:C[o+12]?=some (.bool x.rd)
 c13:C[o+13]?=some (.bool false)
 c14:C[o+14]?=some (.int .i64 x.cpu)
theorem TkIn.lt {C:Array Value} {o:Nat} {pin:Int} {x:Tk}(h:TkIn C o pin x):o+14<C.size:=(Array.getElem?_eq_some_iff.1 h.c14).1
theorem TkIn.of {C C':Array Value} {o o':Nat} {pin:Int} {x:Tk}(h:TkIn C o pin x) (e:∀j,j<15→C'[o'+j]?=C[o+j]?):TkIn C' o' pin x:=by
 obtain⟨s,hs⟩:=h.c10
 exact⟨(e 0 (by decide)).trans h.c0,(e 1 (by decide)).trans h.c1,(e 2 (by decide)).trans h.c2,(e 3 (by decide)).trans h.c3,(e 4 (by decide)).trans h.c4,(e 5 (by decide)).trans h.c5,(e 6 (by decide)).trans h.c6,(e 7 (by decide)).trans h.c7,(e 8 (by decide)).trans h.c8,(e 9 (by decide)).trans h.c9,⟨s,(e 10 (by decide)).trans hs⟩,(e 11 (by decide)).trans h.c11,(e 12 (by decide)).trans h.c12,(e 13 (by decide)).trans h.c13,(e 14 (by decide)).trans h.c14⟩
theorem set_ne {C:Array Value} {q j:Nat} (v:Value)(h:j≠q):(C.setIfInBounds q v)[j]?=C[j]?:=Array.getElem?_setIfInBounds_ne (by omega)
theorem set_eq {C:Array Value} {q:Nat} (v:Value)(h:q<C.size):(C.setIfInBounds q v)[q]?=some v:=by
 rw[Array.getElem?_setIfInBounds,if_pos rfl,if_pos h]
theorem TkIn.setCpu {C:Array Value} {o:Nat} {pin:Int} {x:Tk}(h:TkIn C o pin x) (c:Int):TkIn (C.setIfInBounds (o+14) (.int .i64 c)) o pin { x with cpu:=c }:=by
 obtain⟨s,hs⟩:=h.c10
 have l:=h.lt
 have n:∀j,j≠14→(C.setIfInBounds (o+14) (.int .i64 c))[o+j]?=C[o+j]?:=fun j hj=>set_ne _ (by omega)
 exact⟨(n 0 (by decide)).trans h.c0,(n 1 (by decide)).trans h.c1,(n 2 (by decide)).trans h.c2,(n 3 (by decide)).trans h.c3,(n 4 (by decide)).trans h.c4,(n 5 (by decide)).trans h.c5,(n 6 (by decide)).trans h.c6,(n 7 (by decide)).trans h.c7,(n 8 (by decide)).trans h.c8,(n 9 (by decide)).trans h.c9,⟨s,(n 10 (by decide)).trans hs⟩,(n 11 (by decide)).trans h.c11,(n 12 (by decide)).trans h.c12,(n 13 (by decide)).trans h.c13,set_eq _ (by omega)⟩
theorem TkIn.setSince {C:Array Value} {o:Nat} {pin:Int} {x:Tk}(h:TkIn C o pin x) (c:Int):TkIn (C.setIfInBounds (o+10) (.int .i64 c)) o pin x:=by
 have l:=h.lt
 have n:∀j,j≠10→(C.setIfInBounds (o+10) (.int .i64 c))[o+j]?=C[o+j]?:=fun j hj=>set_ne _ (by omega)
 exact⟨(n 0 (by decide)).trans h.c0,(n 1 (by decide)).trans h.c1,(n 2 (by decide)).trans h.c2,(n 3 (by decide)).trans h.c3,(n 4 (by decide)).trans h.c4,(n 5 (by decide)).trans h.c5,(n 6 (by decide)).trans h.c6,(n 7 (by decide)).trans h.c7,(n 8 (by decide)).trans h.c8,(n 9 (by decide)).trans h.c9,⟨c,set_eq _ (by omega)⟩,(n 11 (by decide)).trans h.c11,(n 12 (by decide)).trans h.c12,(n 13 (by decide)).trans h.c13,(n 14 (by decide)).trans h.c14⟩
def TksIn (C:Array Value) (pin:Int) (l:List Tk):Prop:=∀i x,l[i]?=some x→TkIn C (i*15) pin x
theorem TksIn.upd {C:Array Value} {pin:Int} {l:List Tk} {i f:Nat} {x:Tk} {v:Value}(h:TksIn C pin l)(hi:i<l.length)(hf:f<15)(hx:TkIn (C.setIfInBounds (i*15+f) v) (i*15) pin x):TksIn (C.setIfInBounds (i*15+f) v) pin (l.set i x):=by
 intro j y hj
 rw[List.getElem?_set] at hj
 split at hj
 ·rename_i e
  subst e
  injection hj with hj
  subst hj
  exact hx
 ·rename_i e
  exact(h j y hj).of fun k hk=>set_ne _ (by omega)
theorem TksIn.same {C:Array Value} {pin:Int} {l:List Tk} {i f:Nat} {x:Tk} {v:Value}(h:TksIn C pin l)(hi:l[i]?=some x)(hf:f<15)(hx:TkIn (C.setIfInBounds (i*15+f) v) (i*15) pin x):TksIn (C.setIfInBounds (i*15+f) v) pin l:=by
 have hl:i<l.length:=(List.getElem?_eq_some_iff.1 hi).1
 have:=h.upd hl hf hx
 have e:l.set i x=l:=by
  have:x=l[i]:=(List.getElem?_eq_some_iff.1 hi).2.symm
  rw[this,List.set_getElem_self]
 rwa [e] at this
structure TkR (w:World) (R T cap:Nat) (pin:Int) (l:List Tk) (C:Array Value):Prop where
 ne:T≠R
 row:Row w T 186 C
 sz:cap*15≤C.size
 mx:cap≤maxLen
 len:l.length≤cap
 ml:l.length≤1000
 tks:TksIn C pin l
structure RunG (w:World) (R:Nat) (ad:Option Addr) (cap:Nat) (cpus ticks pin:Int) (l:List Tk):Prop where
 lt:R<w.heap.size
 fz:∀j,w.frozen? ⟨R,j,none⟩=false
 c0:w.cell? ⟨R,0,none⟩=some (.int .i64 cpus)
 c1:w.cell? ⟨R,1,none⟩=some (.int .i64 ticks)
 c2:∃s,w.cell? ⟨R,2,none⟩=some (.int .i64 s)
 c3:w.cell? ⟨R,3,none⟩=some (.slice ad l.length cap)
 row:(ad=none∧l=[]∧cap=0)∨∃T C,ad=some ⟨T,0,none⟩∧TkR w R T cap pin l C
def blk (ad:Option Addr):Nat:=(ad.map (·.block)).getD 0
def rS (R:Nat) (ad:Option Addr) (k:Nat):Prop:=k=R∨∃a,ad=some a∧k=a.block
section
variable {w w':World} {R cap:Nat} {ad:Option Addr} {cpus ticks pin:Int} {l:List Tk}
theorem TkR.upd {S:Nat→Prop} {T:Nat} {C:Array Value}(h:TkR w R T cap pin l C)(hu:Upd S w w')(hn:¬S T):TkR w' R T cap pin l C:=⟨h.ne,h.row.upd hu hn,h.sz,h.mx,h.len,h.ml,h.tks⟩
theorem TkR.keep {T:Nat} {C:Array Value}(h:TkR w R T cap pin l C)(hb:Below w.heap.size w w'):TkR w' R T cap pin l C:=⟨h.ne,h.row.keep hb,h.sz,h.mx,h.len,h.ml,h.tks⟩
theorem RunG.rows (h:RunG w R ad cap cpus ticks pin l)(hl:0<l.length):∃T C,ad=some ⟨T,0,none⟩∧TkR w R T cap pin l C:=by
 rcases h.row with ⟨_,h0,_⟩|⟨T,C,h1,h2⟩
 ·subst h0;simp at hl
 ·exact⟨T,C,h1,h2⟩
theorem RunG.upd {S:Nat→Prop}(h:RunG w R ad cap cpus ticks pin l)(hu:Upd S w w')(h1:¬S R)(h2:∀a,ad=some a→¬S a.block):RunG w' R ad cap cpus ticks pin l:=by
 have k:∀ {o v},w.cell? ⟨R,o,none⟩=some v→w'.cell? ⟨R,o,none⟩=some v:=fun hc=>(hu.cell h.lt h1).trans hc
 obtain⟨s,hs⟩:=h.c2
 refine⟨Nat.lt_of_lt_of_le h.lt hu.size,fun j=>(hu.frozen h.lt h1).trans (h.fz j),k h.c0,k h.c1,⟨s,k hs⟩,k h.c3,?_⟩
 rcases h.row with e|⟨T,C,e1,e2⟩
 ·exact .inl e
 ·exact .inr ⟨T,C,e1,e2.upd hu (h2 _ e1)⟩
theorem RunG.keep (h:RunG w R ad cap cpus ticks pin l)(hb:Below w.heap.size w w'):RunG w' R ad cap cpus ticks pin l:=h.upd (S:=fun _=>False) (Upd.below hb) (fun e=>e) (fun _ _ e=>e)
theorem RunG.drew (h:RunG w R ad cap cpus ticks pin l):RunG w.drew R ad cap cpus ticks pin l:=h.keep (Below.refl _ _).drew
theorem RunG.mx (h:RunG w R ad cap cpus ticks pin l):(l.length:Int)≤1000:=by
 rcases h.row with ⟨_,e,_⟩|⟨_,_,_,h⟩
 ·subst e;simp
 ·have:=h.ml;omega
theorem RunG.setStamp (h:RunG w R ad cap cpus ticks pin l) (x:Int):RunG (w.setCell ⟨R,2,none⟩ (.int .i64 x)) R ad cap cpus ticks pin l:=by
 have u:Upd (fun k=>k=R) w (w.setCell ⟨R,2,none⟩ (.int .i64 x)):=Upd.set w _ rfl
 obtain⟨s,hs⟩:=h.c2
 refine⟨Nat.lt_of_lt_of_le h.lt u.size,fun j=>by rw[World.frozen?_setCell];exact h.fz j,set_off (by decide) h.c0,set_off (by decide) h.c1,⟨x,set_same hs⟩,set_off (by decide) h.c3,?_⟩
 rcases h.row with e|⟨T,C,e1,e2⟩
 ·exact .inl e
 ·exact .inr ⟨T,C,e1,e2.upd u e2.ne⟩
structure RunR (w:World) (R:Nat) (cpus ticks:Int):Prop where
 lt:R<w.heap.size
 fz:∀j,w.frozen? ⟨R,j,none⟩=false
 c0:w.cell? ⟨R,0,none⟩=some (.int .i64 cpus)
 c1:w.cell? ⟨R,1,none⟩=some (.int .i64 ticks)
 c2:∃s,w.cell? ⟨R,2,none⟩=some (.int .i64 s)
 c3:∃v,w.cell? ⟨R,3,none⟩=some v
theorem RunG.r (h:RunG w R ad cap cpus ticks pin l):RunR w R cpus ticks:=⟨h.lt,h.fz,h.c0,h.c1,h.c2,⟨_,h.c3⟩⟩
theorem RunR.upd {S:Nat→Prop}(h:RunR w R cpus ticks)(hu:Upd S w w')(h1:¬S R):RunR w' R cpus ticks:=by
 have k:∀ {o v},w.cell? ⟨R,o,none⟩=some v→w'.cell? ⟨R,o,none⟩=some v:=fun hc=>(hu.cell h.lt h1).trans hc
 obtain⟨s,hs⟩:=h.c2
 obtain⟨v,hv⟩:=h.c3
 exact⟨Nat.lt_of_lt_of_le h.lt hu.size,fun j=>(hu.frozen h.lt h1).trans (h.fz j),k h.c0,k h.c1,⟨s,k hs⟩,⟨v,k hv⟩⟩
theorem RunR.lay {l':List Tk} {T cap' n:Nat} {C:Array Value}(h:RunR w R cpus ticks)(ht:TkR w R T cap' pin l' C)(hn:n=l'.length):RunG (w.setCell ⟨R,3,none⟩ (.slice (some ⟨T,0,none⟩) n cap')) R (some ⟨T,0,none⟩) cap' cpus ticks pin l':=by
 have u:Upd (fun k=>k=R) w (w.setCell ⟨R,3,none⟩ (.slice (some ⟨T,0,none⟩) n cap')):=Upd.set w _ rfl
 obtain⟨s,hs⟩:=h.c2
 obtain⟨v,hv⟩:=h.c3
 subst hn
 exact⟨Nat.lt_of_lt_of_le h.lt u.size,fun j=>by rw[World.frozen?_setCell];exact h.fz j,set_off (by decide) h.c0,set_off (by decide) h.c1,⟨s,set_off (by decide) hs⟩,set_same hv,.inr ⟨T,C,rfl,ht.upd u ht.ne⟩⟩
variable {T:Nat} {C:Array Value} {i:Nat} {x:Tk}
theorem RunG.setT (h:RunG w R (some ⟨T,0,none⟩) cap cpus ticks pin l) {l':List Tk} {q:Nat} {v:Value}(hl:l'.length=l.length)(ht:∀C,TksIn C pin l→TksIn (C.setIfInBounds q v) pin l'):RunG (w.setCell ⟨T,q,none⟩ v) R (some ⟨T,0,none⟩) cap cpus ticks pin l':=by
 rcases h.row with ⟨e,_⟩|⟨T',C,e1,e2⟩
 ·cases e
 injection e1 with e1
 injection e1 with e1
 subst e1
 have u:Upd (fun k=>k=T) w (w.setCell ⟨T,q,none⟩ v):=Upd.set w _ rfl
 have ne:R≠T:=fun e=>e2.ne e.symm
 obtain⟨s,hs⟩:=h.c2
 refine⟨Nat.lt_of_lt_of_le h.lt u.size,fun j=>by rw[World.frozen?_setCell];exact h.fz j,set_blk ne h.c0,set_blk ne h.c1,⟨s,set_blk ne hs⟩,?_,.inr ⟨T,_,rfl,e2.ne,?_,?_,e2.mx,by rw[hl];exact e2.len,by rw[hl];exact e2.ml,ht C e2.tks⟩⟩
 ·rw[hl];exact set_blk ne h.c3
 ·rw[e2.row.setCell];exact e2.row.setRow _
 ·simpa using e2.sz
theorem RunG.setCpu (h:RunG w R (some ⟨T,0,none⟩) cap cpus ticks pin l)(hx:l[i]?=some x) (c:Int):RunG (w.setCell ⟨T,i*15+14,none⟩ (.int .i64 c)) R (some ⟨T,0,none⟩) cap cpus ticks pin (l.set i { x with cpu:=c }):=
 h.setT (by simp) fun C hC=>hC.upd (List.getElem?_eq_some_iff.1 hx).1 (by decide) ((hC i x hx).setCpu c)
theorem RunG.setSince (h:RunG w R (some ⟨T,0,none⟩) cap cpus ticks pin l)(hx:l[i]?=some x) (c:Int):RunG (w.setCell ⟨T,i*15+10,none⟩ (.int .i64 c)) R (some ⟨T,0,none⟩) cap cpus ticks pin l:=
 h.setT rfl fun C hC=>hC.same hx (by decide) ((hC i x hx).setSince c)
theorem TkR.at (h:TkR w R T cap pin l C)(hx:l[i]?=some x):TkIn C (i*15) pin x:=h.tks i x hx
theorem TkR.cell (h:TkR w R T cap pin l C) (q:Nat):w.cell? ⟨T,q,none⟩=C[q]?:=h.row.cell q
end
def tbet (x y:Tk):Bool:=if x.v=y.v then decide (x.t<y.t) else decide (x.v<y.v)
def twait (x:Tk):Bool:=x.rd && decide (x.cpu<0)
def bestOf (l:List Tk) (k:Nat) (x:Tk):Option Nat→Option Nat
 | none=>some k
 | some b=>match l[b]? with
  | none=>some k
  | some y=>if tbet x y then some k else some b
def bestStep (l:List Tk) (k:Nat) (x:Tk) (p:Option Nat):Option Nat:=if twait x then bestOf l k x p else p
def bestG (l:List Tk):Nat→Option Nat
 | 0=>none
 | k+1=>match l[k]? with
  | none=>bestG l k
  | some x=>bestStep l k x (bestG l k)
theorem bestG_next {l:List Tk} {k:Nat} {x:Tk}(hx:l[k]?=some x):bestG l (k+1)=bestStep l k x (bestG l k):=by
 rw[bestG,hx]
theorem bestStep_no {l:List Tk} {k:Nat} {x:Tk} {p:Option Nat}(h:twait x=false):bestStep l k x p=p:=by
 unfold bestStep;rw[h];rfl
theorem bestStep_yes {l:List Tk} {k:Nat} {x:Tk} {p:Option Nat}(h:twait x=true):bestStep l k x p=bestOf l k x p:=by
 unfold bestStep;rw[h];rfl
theorem bestOf_some {l:List Tk} {k b:Nat} {x y:Tk}(h:l[b]?=some y):bestOf l k x (some b)=if tbet x y then some k else some b:=by
 show (match l[b]? with|none=>some k|some y=>if tbet x y then some k else some b)=_
 rw[h]
def onG (l:List Tk) (c:Int):Option Nat:=l.findIdx? (fun x=>x.cpu == c)
def idG (l:List Tk) (t:Int):Option Nat:=l.findIdx? (fun x=>x.t == t)
def fill1 (l:List Tk) (c:Int):List Tk:=match onG l c with
 | some _=>l
 | none=>match bestG l l.length with
  | none=>l
  | some b=>match l[b]? with
   | none=>l
   | some x=>l.set b { x with cpu:=c }
def fillG (l:List Tk):Nat→List Tk
 | 0=>l
 | c+1=>fill1 (fillG l c) c
def lowG (l:List Tk):Nat→Option Int
 | 0=>none
 | k+1=>match l[k]? with
  | none=>lowG l k
  | some x=>if x.rd then (match lowG l k with
      | none=>some x.v
      | some n=>if x.v<n then some x.v else some n) else lowG l k
theorem bestG_lt (l:List Tk):∀k b,bestG l k=some b→b<k∧b<l.length
 | 0,b,h=>by simp[bestG] at h
 | k+1,b,h=>by
  have ih:=bestG_lt l k
  cases hk:l[k]? with
  | none=>
   rw[bestG,hk] at h
   have:=ih b h
   omega
  | some x=>
   have hkl:k<l.length:=(List.getElem?_eq_some_iff.1 hk).1
   rw[bestG_next hk] at h
   cases hw:twait x
   ·rw[bestStep_no hw] at h
    have:=ih b h
    omega
   ·rw[bestStep_yes hw] at h
    cases hb:bestG l k with
    | none=>rw[hb] at h;injection h with h;omega
    | some y=>
     have:=ih y hb
     rw[hb,bestOf_some (List.getElem?_eq_getElem this.2)] at h
     split at h <;> injection h with h <;> omega
def ptrG (ad:Option Addr) (o:Option Nat):Value:=.pointer (o.map fun i=>⟨blk ad,i*15,none⟩)
theorem ptrG_none (ad:Option Addr):ptrG ad none=.pointer none:=rfl
theorem ptrG_some (T i:Nat):ptrG (some ⟨T,0,none⟩) (some i)=.pointer (some ⟨T,i*15,none⟩):=rfl
theorem find_at {l:List Tk} {p:Tk→Bool} {k:Nat} {x:Tk}(hx:l[k]?=some x)(hp:p x=true)(h:∀(j:Nat) (y:Tk),j<k→l[j]?=some y→p y=false):l.findIdx? p=some k:=by
 obtain⟨hk,e⟩:=List.getElem?_eq_some_iff.1 hx
 rw[List.findIdx?_eq_some_iff_getElem]
 refine⟨hk,by rw[e];exact hp,fun j hj=>?_⟩
 have:=h j l[j] hj (List.getElem?_eq_getElem (by omega))
 simp[this]
theorem find_no {l:List Tk} {p:Tk→Bool}(h:∀(j:Nat) (y:Tk),l[j]?=some y→p y=false):l.findIdx? p=none:=by
 rw[List.findIdx?_eq_none_iff]
 intro x hx
 obtain⟨j,hj,e⟩:=List.getElem_of_mem hx
 exact h j x (by rw[List.getElem?_eq_getElem hj,e])
section
variable {w:World} {R cap:Nat} {ad:Option Addr} {cpus ticks pin:Int} {l:List Tk}
theorem find_is (h:RunG w R ad cap cpus ticks pin l) (t:Int):Calls Tryz.prog 64 #[.pointer (some ⟨R,0,none⟩),.int .i64 t] w fun e w'=>e=.returned (ptrG ad (idG l t))∧w=w':=by
 have c3:=h.c3
 have HH:=Lib.hid h
 have hmx:=h.mx
 obtain⟨n,hn⟩:∃n,n=l.length:=⟨_,rfl⟩
 rw[← hn] at c3 hmx
 have HN:=Lib.hid hn
 clear h hn
 go_enter Tryz.func64,Tryz.ntmps64
 go_wp2_with fail
 go_loop [11] (fun i=>∃k:Nat,k≤n∧i=.int .i64 k∧Hid (∀(j:Nat) (y:Tk),j<k→l[j]?=some y→(y.t == t)=false)) (fun i=>n-(intOf i).toNat)
 case atStart=>exact⟨0,Nat.zero_le _,rfl,fun j y hj=>absurd hj (Nat.not_lt_zero _)⟩
 case round=>
  obtain⟨k,hk0,rfl,HM⟩:=hrel
  by_cases hk:k<n
  ·have j1:(k:Int)<n:=by omega
   obtain⟨T,C,rfl,hr⟩:=HH.out.rows (by have:=HN.out;omega)
   obtain⟨x,hx⟩:∃x,l[k]?=some x:=⟨l[k]'(by have:=HN.out;omega),List.getElem?_eq_getElem _⟩
   have t0:=(hr.cell (k*15)).trans (hr.at hx).c0
   have HX:=Lib.hid hx
   clear hr hx
   by_cases ht:x.t=t
   ·have HT:=Lib.hid ht
    rw[ht] at t0
    clear ht
    go_wp2_with fail
    go_ret
    exact⟨by rw[idG,find_at HX.out (by simp[HT.out]) HM.out];rfl,rfl⟩
   ·have ht':(x.t == t)=false:=by simp[ht]
    have HT:=Lib.hid ht'
    clear ht
    go_wp2_with fail
    go_round
    case rel=>exact⟨k+1,by omega,by go_num,fun j y hj hy=>by
          rcases Nat.lt_succ_iff_lt_or_eq.1 hj with q|rfl
          · exact HM.out j y q hy
          · rw[HX.out] at hy;injection hy with hy;subst hy;exact HT.out⟩
    case measure=>simp[intOf];omega
  ·obtain rfl:k=n:=by omega
   go_wp2_with fail
   go_ret
   exact⟨by rw[idG,find_no (fun j y hy=>HM.out j y (by have:=(List.getElem?_eq_some_iff.1 hy).1;have:=HN.out;omega) hy)];rfl,rfl⟩
theorem onG_is (h:RunG w R ad cap cpus ticks pin l) (t:Int):Calls Tryz.prog 215 #[.pointer (some ⟨R,0,none⟩),.int .i64 t] w fun e w'=>e=.returned (ptrG ad (onG l t))∧w=w':=by
 have c3:=h.c3
 have HH:=Lib.hid h
 have hmx:=h.mx
 obtain⟨n,hn⟩:∃n,n=l.length:=⟨_,rfl⟩
 rw[← hn] at c3 hmx
 have HN:=Lib.hid hn
 clear h hn
 go_enter Tryz.func215,Tryz.ntmps215
 go_wp2_with fail
 go_loop [11] (fun i=>∃k:Nat,k≤n∧i=.int .i64 k∧Hid (∀(j:Nat) (y:Tk),j<k→l[j]?=some y→(y.cpu == t)=false)) (fun i=>n-(intOf i).toNat)
 case atStart=>exact⟨0,Nat.zero_le _,rfl,fun j y hj=>absurd hj (Nat.not_lt_zero _)⟩
 case round=>
  obtain⟨k,hk0,rfl,HM⟩:=hrel
  by_cases hk:k<n
  ·have j1:(k:Int)<n:=by omega
   obtain⟨T,C,rfl,hr⟩:=HH.out.rows (by have:=HN.out;omega)
   obtain⟨x,hx⟩:∃x,l[k]?=some x:=⟨l[k]'(by have:=HN.out;omega),List.getElem?_eq_getElem _⟩
   have t0:=(hr.cell (k*15+14)).trans (hr.at hx).c14
   have HX:=Lib.hid hx
   clear hr hx
   by_cases ht:x.cpu=t
   ·have HT:=Lib.hid ht
    rw[ht] at t0
    clear ht
    go_wp2_with fail
    go_ret
    exact⟨by rw[onG,find_at HX.out (by simp[HT.out]) HM.out];rfl,rfl⟩
   ·have ht':(x.cpu == t)=false:=by simp[ht]
    have HT:=Lib.hid ht'
    clear ht
    go_wp2_with fail
    go_round
    case rel=>exact⟨k+1,by omega,by go_num,fun j y hj hy=>by
          rcases Nat.lt_succ_iff_lt_or_eq.1 hj with q|rfl
          · exact HM.out j y q hy
          · rw[HX.out] at hy;injection hy with hy;subst hy;exact HT.out⟩
    case measure=>simp[intOf];omega
  ·obtain rfl:k=n:=by omega
   go_wp2_with fail
   go_ret
   exact⟨by rw[onG,find_no (fun j y hy=>HM.out j y (by have:=(List.getElem?_eq_some_iff.1 hy).1;have:=HN.out;omega) hy)];rfl,rfl⟩
variable {T:Nat} {C:Array Value} {i j:Nat} {x y:Tk}
theorem as_is (h:TkR w R T cap pin l C)(hx:l[i]?=some x):Calls Tryz.prog 326 #[.pointer (some ⟨T,i*15,none⟩)] w fun e w'=>e=.returned (.tuple #[.int .i64 1,.int .i64 10])∧Below w.heap.size w w':=by
 have t1:=(h.cell (i*15+1)).trans (h.at hx).c1
 have t2:=(h.cell (i*15+2)).trans (h.at hx).c2
 have t3:=(h.cell (i*15+3)).trans (h.at hx).c3
 clear h hx
 go_enter Tryz.func326,Tryz.ntmps326
 go_wp2_with fail
 go_region
 go_wp2_with fail
 go_ret2
 exact⟨rfl,(Below.refl _ _).drew⟩
theorem waits_any (h:TkR w R T cap pin l C)(hx:l[i]?=some x):Calls Tryz.prog 283 #[.pointer (some ⟨T,i*15,none⟩)] w fun e w'=>e=.returned (.bool (twait x))∧w=w':=by
 have t12:=(h.cell (i*15+12)).trans (h.at hx).c12
 have t13:=(h.cell (i*15+13)).trans (h.at hx).c13
 have t14:=(h.cell (i*15+14)).trans (h.at hx).c14
 obtain⟨q,hq⟩:∃q,q=twait x:=⟨_,rfl⟩
 unfold twait at hq
 rw[show twait x=(x.rd && decide (x.cpu<0)) from rfl,← hq]
 generalize x.rd=r at *
 generalize x.cpu=u at *
 clear h hx
 by_cases hu:u<0
 ·cases r
  all_goals
   simp only[hu,decide_true,Bool.and_true,Bool.false_and] at hq
   subst hq
   go_enter Tryz.func283,Tryz.ntmps283
   go_wp2_with fail
   go_ret
   exact⟨rfl,rfl⟩
 ·cases r
  all_goals
   simp only[hu,decide_false,Bool.and_false,Bool.false_and] at hq
   subst hq
   go_enter Tryz.func283,Tryz.ntmps283
   go_wp2_with fail
   go_ret
   exact⟨rfl,rfl⟩
theorem better_is (h:TkR w R T cap pin l C)(hx:l[i]?=some x)(hy:l[j]?=some y):Calls Tryz.prog 284 #[.pointer (some ⟨T,i*15,none⟩),.pointer (some ⟨T,j*15,none⟩)] w fun e w'=>e=.returned (.bool (tbet x y))∧Below w.heap.size w w':=by
 have HX:=Lib.hid hx
 have HY:=Lib.hid hy
 have HH:=Lib.hid h
 have HA:=Lib.hid (as_is h hx)
 have hb:=show tbet x y=if x.v=y.v then decide (x.t<y.t) else decide (x.v<y.v) from rfl
 obtain⟨q,hq⟩:∃q,q=tbet x y:=⟨_,rfl⟩
 rw[← hq] at hb ⊢
 clear h hx hy hq
 go_enter Tryz.func284,Tryz.ntmps284
 go_upto_region 2 with (go_at_call 326;refine HA.out.mono ?_;rintro e1 w1 ⟨rfl,hb1⟩)
 have HB:=Lib.hid (as_is (HH.out.keep hb1) HY.out)
 have HB1:=Lib.hid hb1
 clear hb1 HA
 go_upto_region 3 with (go_at_call 326;refine HB.out.mono ?_;rintro e2 w2 ⟨rfl,hb2⟩)
 have HB2:=Lib.hid (HB1.out.trans (hb2.mono HB1.out.size))
 have hr:=HH.out.keep HB2.out
 have a0:=(hr.cell (i*15)).trans (hr.at HX.out).c0
 have a9:=(hr.cell (i*15+9)).trans (hr.at HX.out).c9
 have b0:=(hr.cell (j*15)).trans (hr.at HY.out).c0
 have b9:=(hr.cell (j*15+9)).trans (hr.at HY.out).c9
 clear hr hb2 HB HB1 HH HX HY
 generalize x.v=xv at *
 generalize y.v=yv at *
 generalize x.t=xt at *
 generalize y.t=yt at *
 by_cases hv:xv=yv
 ·rw[if_pos hv] at hb
  subst hv
  subst hb
  go_wp2_with fail
  go_region
  go_wp2_with fail
  go_region
  go_wp2_with fail
  go_ret
  exact⟨rfl,HB2.out.drew.drew⟩
 ·rw[if_neg hv] at hb
  subst hb
  have hv':(xv != yv)=true:=by simp[hv]
  clear hv
  go_wp2_with fail
  go_region
  go_wp2_with fail
  go_region
  go_wp2_with fail
  go_ret
  exact⟨rfl,HB2.out.drew.drew⟩
end
end Go.Proofs.YtfkepfncgdlgoaaGreatDoor
