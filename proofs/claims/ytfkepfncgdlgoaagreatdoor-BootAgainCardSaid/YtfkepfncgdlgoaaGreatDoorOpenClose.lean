/- The walks of package open: New, free, Get, Seek, Close. -/
import Derived.Test.YtfkepfncgdlgoaaGreatDoorOpenWalk
namespace Go.Proofs.YtfkepfncgdlgoaaGreatDoor.OpenLaw
open Go.RowKit
set_option linter.unusedVariables false
set_option linter.unusedSimpArgs false
set_option maxRecDepth 100000
set_option maxHeartbeats 400000
abbrev KB (b:Nat) (w w':World):Prop:=w.grownBy w' (some b)
theorem KB.rfl' (b:Nat) (w:World):KB b w w:=World.grownBy.refl _ _
theorem KB.trans {b:Nat} {u w w':World}(h:KB b u w) (k:KB b w w'):KB b u w':=
 ⟨k.os.trans h.os,k.tape.trans h.tape,k.output.trans h.output,Nat.le_trans h.size k.size,fun i hi hn=>(k.block i (Nat.lt_of_lt_of_le hi h.size) hn).trans (h.block i hi hn)⟩
theorem KB.of {b:Nat} {w w':World}(h:Below w.heap.size w w'):KB b w w':=⟨h.os,h.tape,h.output,h.size,fun i hi _=>h.block i hi⟩
theorem KB.alloc {b:Nat} {u w:World}(h:KB b u w) (o:Obj):KB b u (w.alloc o):=h.trans (World.grownBy_alloc w o _)
theorem KB.drew {b:Nat} {u w:World}(h:KB b u w):KB b u w.drew:=⟨h.os,h.tape,h.output,h.size,h.block⟩
theorem KB.set {b i:Nat} {u w:World}(h:KB b u w) (v:Value):KB b u (w.setCell ⟨b,i,none⟩ v):=
 h.trans ⟨rfl,rfl,rfl,by simp[World.setCell],fun k hk hn=>Below.heap_setCell _ _ _ _ (by intro e;exact hn (by rw[e]))⟩
theorem find_some {w:World} {b p j k:Nat} {fs:Nat→F} {fd:Nat→Nat}(h:OTab w b fs fd)(h1:1≤p)(h2:p≤16)(hj:j<8)(hx:fd (p*8+j)=k+1):Calls Tryz.prog 154 #[.pointer (some ⟨b,0,none⟩),.int .i64 p,.int .i64 j] w fun e w'=>e=.returned (.tuple #[.pointer (some ⟨b,k*6,none⟩),.int .i64 0])∧Below w.heap.size w w':=by
 have:=find_is h h1 h2 hj
 rw[hx] at this
 exact this
def zAt (i:Nat):Value:=if i<192 then (if i % 6=3 then .bool false else .int .i64 0) else .int .i64 0
theorem zeros_eq:Tryz.zeroCells167.toList=(List.range 328).map zAt:=by kernel_rfl
theorem zeros_cell (w:World) (i:Nat)(h:i<328):(w.alloc (.cells Tryz.zeroCells167 167)).cell? ⟨w.heap.size,i,none⟩=some (zAt i):=by
 have:=cells_new w Tryz.zeroCells167.toList 167 i (zAt i) (by rw[zeros_eq,List.getElem?_map,List.getElem?_range h];rfl)
 rw[Array.toArray_toList] at this
 rw[← this]
 congr 1
 unfold Addr.add
 split <;> simp_all
theorem frozen_new (w:World) (c:Array Value) (T:TypeId) (i:Nat):(w.alloc (.cells c T)).frozen? ⟨w.heap.size,i,none⟩=false:=by
 simp
theorem new_tab (w:World):OTab (w.alloc (.cells Tryz.zeroCells167 167)) w.heap.size (fun _=>f0) (fun _=>0):=by
 refine⟨by simp,fun i=>frozen_new w _ _ i,fun i=>by omega,?_,?_,?_,?_,?_,?_,?_⟩
 ·intro k hk;rw[zeros_cell w _ (by omega),zAt,if_pos (by omega),if_neg (by omega)]
 ·intro k hk;rw[zeros_cell w _ (by omega),zAt,if_pos (by omega),if_neg (by omega)]
 ·intro k hk;rw[zeros_cell w _ (by omega),zAt,if_pos (by omega),if_neg (by omega)]
 ·intro k hk;rw[zeros_cell w _ (by omega),zAt,if_pos (by omega),if_pos (by omega)]
 ·intro k hk;rw[zeros_cell w _ (by omega),zAt,if_pos (by omega),if_neg (by omega)]
 ·intro k hk;rw[zeros_cell w _ (by omega),zAt,if_pos (by omega),if_neg (by omega)]
 ·intro p j hp hj;rw[zeros_cell w _ (by omega),zAt,if_neg (by omega)];rfl
theorem new_is (w:World):Calls Tryz.prog 27 #[] w fun e w'=>e=.returned (.pointer (some ⟨w.heap.size,0,none⟩))∧Below w.heap.size w w'∧w'.heap.size=w.heap.size+1∧OTab w' w.heap.size (fun _=>f0) (fun _=>0):=by
 go_enter Tryz.func27,Tryz.ntmps27
 go_wp2
 go_ret
 exact⟨rfl,Go.Joins.below_alloc1 w _,by simp,new_tab w⟩
theorem get_is {w:World} {b p j k:Nat} {fs:Nat→F} {fd:Nat→Nat}(h:OTab w b fs fd)(h1:1≤p)(h2:p≤16)(hj:j<8)(hx:fd (p*8+j)=k+1):Calls Tryz.prog 79 #[.pointer (some ⟨b,0,none⟩),.int .i64 p,.int .i64 j] w fun e w'=>e=.returned (.tuple #[thing (fs k),.int .i64 0])∧Below w.heap.size w w':=by
 have hk:k<32:=by have:=h.le (p*8+j);omega
 have hF:=find_some (h.alloc (.cells #[.int .i64 0,.int .i64 0,.int .i64 0,.bool false,.int .i64 0] 160)) h1 h2 hj hx
 have HF:=Lib.hid hF
 have HH:=Lib.hid (h.alloc (.cells #[.int .i64 0,.int .i64 0,.int .i64 0,.bool false,.int .i64 0] 160))
 have HB:=Lib.hid (Go.Joins.below_alloc1 w (.cells #[.int .i64 0,.int .i64 0,.int .i64 0,.bool false,.int .i64 0] 160))
 have HR:=Lib.hid (has_new w [.int .i64 0,.int .i64 0,.int .i64 0,.bool false,.int .i64 0] 160)
 have HZ:=Lib.hid (fun i=>frozen_new w #[.int .i64 0,.int .i64 0,.int .i64 0,.bool false,.int .i64 0] 160 i)
 clear hF hx h h1 h2 hj
 go_enter Tryz.func79,Tryz.ntmps79
 go_wp2_with fail
 refine HF.out.mono ?_
 rintro e w1 ⟨rfl,hb1⟩
 have H1:=Lib.hid (HH.out.keep hb1)
 have c0:=H1.out.c0 k hk
 have c1:=H1.out.c1 k hk
 have c2:=H1.out.c2 k hk
 have c3:=H1.out.c3 k hk
 have c4:=H1.out.c4 k hk
 have R:=HR.out.keep hb1
 have r0:=R.2 0 _ rfl
 have r1:=R.2 1 _ rfl
 have r2:=R.2 2 _ rfl
 have r3:=R.2 3 _ rfl
 have r4:=R.2 4 _ rfl
 have z:∀i,w1.frozen? ⟨w.heap.size,i,none⟩=false:=fun i=>(hb1.frozen (p:=⟨w.heap.size,i,none⟩) (by simp)).trans (HZ.out i)
 have HK:=Lib.hid (Below.trans HB.out (hb1.mono (by simp)))
 clear R hb1 hk
 go_wp2
 refine bodyPost_ret (v:=.tuple #[thing (fs k),.int .i64 0]) (by rw[results_cell_tmp rfl];go_simp;rfl) rfl ⟨rfl,?_⟩
 exact((((HK.out.setCell (p:=⟨_,_,none⟩) (Nat.le_refl _) _).setCell (p:=⟨_,_,none⟩) (Nat.le_refl _) _).setCell (p:=⟨_,_,none⟩) (Nat.le_refl _) _).setCell (p:=⟨_,_,none⟩) (Nat.le_refl _) _).setCell (p:=⟨_,_,none⟩) (Nat.le_refl _) _
theorem KB.setc {b:Nat} {u w:World}(h:KB b u w) (i:Nat) (v:Value):KB b u (w.setCell ⟨b,i,none⟩ v):=h.set v
theorem seek_is {w:World} {b p j k:Nat} {at':Int} {fs:Nat→F} {fd:Nat→Nat}(h:OTab w b fs fd)(h1:1≤p)(h2:p≤16)(hj:j<8)(hx:fd (p*8+j)=k+1)(ha:0≤at')(hb:at'≤512):Calls Tryz.prog 82 #[.pointer (some ⟨b,0,none⟩),.int .i64 p,.int .i64 j,.int .i64 at'] w fun e w'=>e=.returned (.int .i64 0)∧KB b w w'∧OTab w' b (updF fs k { fs k with pos:=at' }) fd:=by
 have hk:k<32:=by have:=h.le (p*8+j);omega
 have HF:=Lib.hid (find_some h h1 h2 hj hx)
 have HH:=Lib.hid h
 have HB:=Lib.hid (KB.rfl' b w)
 clear hx h h1 h2 hj
 go_enter Tryz.func82,Tryz.ntmps82
 go_wp2_with fail
 refine HF.out.mono ?_
 rintro e w1 ⟨rfl,hb1⟩
 have H1:=Lib.hid (HH.out.keep hb1)
 have c4:=H1.out.c4 k hk
 have z:∀i,w1.frozen? ⟨b,i,none⟩=false:=H1.out.fz
 have HK:=Lib.hid (KB.of hb1 (b:=b))
 have HN:=Lib.hid (H1.out.setPos hk at')
 clear hb1 hk
 go_wp2
 go_ret
 exact⟨rfl,HK.out.setc _ _,HN.out⟩
end Go.Proofs.YtfkepfncgdlgoaaGreatDoor.OpenLaw
