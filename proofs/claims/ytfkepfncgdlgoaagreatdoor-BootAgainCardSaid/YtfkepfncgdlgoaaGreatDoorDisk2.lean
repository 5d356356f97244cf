/- Small facts for all walks of this seat, and arguments opened to cells. No program here. Slices of the call's own: what keeps them. No program here. The two maps of space.Memory, as functions: spaces (number -> a space's map) and a space (page number -> its entry). What a call may turn: the blocks of a set, and none but them; new ones may come. No program here. Slices of bytes: what is known of them, and slices.Clone at bytes. The walks of package disk: Size, goes, Read. The walks of package disk: Flush. -/
import Derived.WalkKit
import Derived.ProofKit
import Derived.Lib.Hide
import Derived.Deep.Slices
import Derived.Deep.Fields
import Derived.ChangeSame
import Derived.OpenShut
import Derived.Lib.SmallJoins
import Derived.OwnWalk
import Derived.Test.YtfkepfncgdlgoaaGreatDoorProg
import Derived.Maps.OwnSet
import Derived.Maps.Views
import Derived.WalkSpells
import Derived.Laws.CopyOwn
import Derived.Laws.CopyRow
import Derived.Deep.CutBlock
import Derived.StillTailTactics
import Derived.Deep.RegionHeld3
import Derived.IntWalk
namespace Go.Proofs.YtfkepfncgdlgoaaGreatDoor
open Go.ChangeShapes Go.WideShapes Go.Deep Go.RowKit
open Go.RowKit
open Go.RowKit Go.Maps
set_option linter.unusedVariables false
set_option linter.unusedSimpArgs false
set_option maxRecDepth 100000
set_option maxHeartbeats 400000
theorem ret_int {k:IntKind} {a b:Int}(h:a=b):Ending.returned (.int k a)=.returned (.int k b):=by rw[h]
section
variable {P:Program} (w:World)
theorem run_append_fresh (base:Nat) (t ty e:TypeId) (i:TypeInfo) (z:Value) (size bytes:Nat)(ht:P.underlying t=some (.slice e))(hi:P.info? e=some i)(hz:i.zero=some z)
  (hsize:i.size=size) (hby:i.bytes=bytes) (hzs:z.cells.size=size) (hsz:0<size)
  (v:Value) (n:Nat) (xs:List Value) (hown:w.ownsRow base e size v n xs)
  (a:Addr) (m c:Nat) (news:List Value) (hl:news.length=m*size) (hnews:∀j u,news[j]?=some u→w.cell? (a.add j)=some u) (h1:∀u∈news,u.oneCell'=true)
  (h63:n+m≤maxLen) (hbytes:(n+m)*bytes≤140737488355328) (hbase:base≤w.heap.size) :
  ∃v' w',(Builtin.append_ #[t,t] ty #[v,.slice (some a) m c]).run P w=.ok v' w'∧w'.ownsRow base e size v' (n+m) (xs++news)∧w.grownBy w' v.ownBlock ∧
   (v'.ownBlock=v.ownBlock∨∃g,w.heap.size≤g∧v'.ownBlock=some g):=by
 obtain⟨v',w',hr,h2,h3,h4⟩:=run_append_own (P:=P) w base t ty e i z size bytes ht hi hz hsize hby hzs hsz v n xs hown a m c news hl hnews h1 h63 hbytes hbase
 refine⟨v',w',hr,h2,h3,?_⟩
 subst hsize
 subst hby
 have h63':n+m≤9223372036854775807:=by simp only[maxLen] at h63;omega
 rcases hown.2 with ⟨rfl,rfl⟩|⟨g,cap,cur,rfl,hbg,hg,hnc,hcm,hcs,htake⟩
 ·by_cases hm:m=0
  ·have:=h4.2 ⟨rfl,hm⟩
   subst this
   exact .inl rfl
  ·have hr2:=run_append_nil (P:=P) w t ty e i z ht hi hz a m c news hl hnews (by omega) (by omega) (by simp only[Nat.zero_add] at hbytes;omega)
   rw[hr] at hr2
   injection hr2 with e1 _
   subst e1
   exact .inr ⟨w.heap.size,Nat.le_refl _,rfl⟩
 ·by_cases hroom:n+m≤cap
  ·have hfit:n*i.size+news.length≤cur.size:=by rw[hl,hcs,← Nat.add_mul];exact Nat.mul_le_mul_right _ hroom
   have hr2:=run_append_room (P:=P) w t ty e i ht hi g n cap cur hg a m c news hl hnews h1 hroom hfit
   rw[hr] at hr2
   injection hr2 with e1 _
   subst e1
   exact .inl rfl
  ·have holds:∀j u,xs[j]?=some u→w.cell? ((⟨g,0,none⟩:Addr).add j)=some u:=hown.cells (g:=g) rfl
   have hr2:=run_append_grow (P:=P) w t ty e i z ht hi hz ⟨g,0,none⟩ n cap xs hown.1 holds a m c news hl hnews (by omega) (by omega) (growslice_fits (by omega) hbytes)
   rw[hr] at hr2
   injection hr2 with e1 _
   subst e1
   exact .inr ⟨w.heap.size,Nat.le_refl _,rfl⟩
theorem wpList_append_fresh {ops:Array Oper} {rest:List Oper} {o:Oper} {a:Act} {Q:Exit→Act→World→Prop}(hgd:o.guard=none) (s x:Operand) (t:TypeId)
  (ho:o.op=.call { callee:=.builtin .append,args:=#[s,x],argTypes:=#[t,t] })
  (base:Nat) (e:TypeId) (i:TypeInfo) (z:Value) (size bytes:Nat) (ht:P.underlying t=some (.slice e)) (hi:P.info? e=some i) (hz:i.zero=some z)
  (hsize:i.size=size) (hby:i.bytes=bytes) (hzs:z.cells.size=size) (hsz:0<size)
  (v:Value) (n:Nat) (xs:List Value) (hs:a.eval s=v) (hown:w.ownsRow base e size v n xs)
  (ad:Addr) (m c:Nat) (news:List Value) (hx:a.eval x=.slice (some ad) m c) (hl:news.length=m*size) (hnews:∀j u,news[j]?=some u→w.cell? (ad.add j)=some u) (h1:∀u∈news,u.oneCell'=true)
  (h63:n+m≤maxLen) (hbytes:(n+m)*bytes≤140737488355328) (hbase:base≤w.heap.size)
  (h:∀v' w',w'.ownsRow base e size v' (n+m) (xs++news)→w.grownBy w' v.ownBlock→(v'.ownBlock=v.ownBlock∨∃g,w.heap.size≤g∧v'.ownBlock=some g)→wpList P ops Q rest (a.put o.dst v') w'):wpList P ops Q (o::rest) a w:=by
 refine wpList_plain hgd fun K hK=>?_
 obtain⟨v',w',hr,h2,h3,h4⟩:=run_append_fresh (P:=P) w base t o.type e i z size bytes ht hi hz hsize hby hzs hsz v n xs hown ad m c news hl hnews h1 h63 hbytes hbase
 unfold Oper.wp execOp
 simp only[ho,resolve,invoke,builtin,Sem.run_bind,Sem.run_pure,Result.andThen_ok,List.map_toArray,List.map_cons,List.map_nil,hs,hx,hr]
 exact hK _ _ (h v' w' h2 h3 h4)
end
theorem cells_new (w:World) (l:List Value) (T:TypeId):∀j u,l[j]?=some u→(w.alloc (.cells l.toArray T)).cell? ((⟨w.heap.size,0,none⟩:Addr).add j)=some u:=by
 intro j u h
 have hadd:(⟨w.heap.size,0,none⟩:Addr).add j=⟨w.heap.size,j,none⟩:=by unfold Addr.add;split <;> simp_all
 rw[hadd,cell_of_row _ _ _ _ _ _ (heap_alloc_new w _)]
 simpa using h
theorem cells1_new (w:World) (a:Value) (T:TypeId):∀j u,[a][j]?=some u→(w.alloc (.cells #[a] T)).cell? ((⟨w.heap.size,0,none⟩:Addr).add j)=some u:=cells_new w [a] T
def Has (w:World) (b:Nat) (cs:List Value):Prop:=b<w.heap.size∧∀i v,cs[i]?=some v→w.cell? ⟨b,i,none⟩=some v
theorem Has.keep {w w':World} {b:Nat} {cs:List Value}(h:Has w b cs)(hb:Below w.heap.size w w'):Has w' b cs:=
 ⟨Nat.lt_of_lt_of_le h.1 hb.size,fun i v hv=>(hb.cell (p:=⟨b,i,none⟩) h.1).trans (h.2 i v hv)⟩
theorem has_new (w:World) (l:List Value) (T:TypeId):Has (w.alloc (.cells l.toArray T)) w.heap.size l:=
 ⟨by simp,fun i v hv=>by rw[cell_of_row _ _ _ _ _ _ (heap_alloc_new w _)];simpa using hv⟩
def At {α:Type} (f:α→Value) (d:α) (w:World) (v:Value) (xs:List α):Prop:=
 ∃(a:Option Addr) (cap:Nat),v=.slice a xs.length cap∧xs.length≤cap∧cap≤maxLen ∧
  (xs=[]∨∃b off,a=some ⟨b,off,none⟩∧b<w.heap.size∧∀i,i<xs.length→w.cell? ⟨b,off+i,none⟩=some (f (xs.getD i d)))
theorem At.keep {α:Type} {f:α→Value} {d:α} {w w':World} {v:Value} {xs:List α}(h:At f d w v xs)(hb:Below w.heap.size w w'):At f d w' v xs:=by
 obtain⟨a,cap,hv,hl,hm,h⟩:=h
 refine⟨a,cap,hv,hl,hm,?_⟩
 rcases h with h|⟨b,off,ha,hlt,hc⟩
 ·exact .inl h
 ·exact .inr ⟨b,off,ha,Nat.lt_of_lt_of_le hlt hb.size,fun i hi=>(hb.cell (p:=⟨b,off+i,none⟩) hlt).trans (hc i hi)⟩
theorem at_of_owned {α:Type} {f:α→Value} {d:α} {w:World} {base:Nat} {e:TypeId} {v:Value} {xs:List α}(h:w.ownsRow base e 1 v xs.length (xs.map f)):At f d w v xs:=by
 rcases h.2 with ⟨rfl,hn⟩|⟨g,cap,cur,rfl,hb,hg,hnc,hcm,hcs,htake⟩
 ·have:xs=[]:=List.eq_nil_of_length_eq_zero hn
  subst this
  exact⟨none,0,rfl,Nat.le_refl _,Nat.zero_le _,.inl rfl⟩
 ·refine⟨some ⟨g,0,none⟩,cap,rfl,hnc,hcm,.inr ⟨g,0,rfl,(Array.getElem?_eq_some_iff.1 hg).1,fun i hi=>?_⟩⟩
  have hc:=h.cells (g:=g) rfl i (f (xs.getD i d)) (by simp[List.getD,hi])
  rw[Addr.add_lit] at hc
  simpa using hc
theorem at_new {α:Type} {f:α→Value} {d:α} (w:World) (xs:List α) (T:TypeId)(hx:xs.length≤maxLen):At f d (w.alloc (.cells (xs.map f).toArray T)) (.slice (some ⟨w.heap.size,0,none⟩) xs.length xs.length) xs:=
 ⟨_,_,rfl,Nat.le_refl _,hx,.inr ⟨w.heap.size,0,rfl,by simp,fun i hi=>by
    rw[cell_of_row _ _ _ _ _ _ (heap_alloc_new w _)]
    simp[List.getD,hi]⟩⟩
theorem owns_keep {w w':World} {B e s n:Nat} {v:Value} {l:List Value}(h:w.ownsRow B e s v n l)(hb:Below w.heap.size w w'):w'.ownsRow B e s v n l:=
 h.kept (row:=none) ⟨hb.os,hb.tape,hb.output,hb.size,fun k hk _=>hb.block k hk⟩ (by cases hv:v.ownBlock <;> simp)
theorem own_form {w:World} {B e n:Nat} {v:Value} {l:List Value} {s:Nat}(h:w.ownsRow B e s v n l):∃p cap,v=.slice p n cap:=by
 rcases h.2 with ⟨rfl,hn⟩|⟨g,cap',cur,rfl,_⟩
 ·exact⟨none,0,by rw[hn]⟩
 ·exact⟨_,cap',rfl⟩
theorem owns_base {w:World} {B B' e s n:Nat} {v:Value} {l:List Value}(h:w.ownsRow B e s v n l)(hB:B'≤B):w.ownsRow B' e s v n l:=by
 refine⟨h.1,?_⟩
 rcases h.2 with h|⟨g,cap,cur,h1,h2,h3⟩
 ·exact .inl h
 ·exact .inr ⟨g,cap,cur,h1,Nat.le_trans hB h2,h3⟩
theorem owns_set {w:World} {B e s n c i:Nat} {v x:Value} {l:List Value}(h:w.ownsRow B e s v n l)(hc:v.ownBlock≠some c):(w.setCell ⟨c,i,none⟩ x).ownsRow B e s v n l:=by
 refine h.kept (row:=some c) ⟨rfl,rfl,rfl,by simp[World.setCell],fun k hk hne=>Below.heap_setCell _ _ _ _ (by intro e;exact hne (by rw[e]))⟩ ?_
 exact .inr hc
theorem gb {w w':World}(hb:Below w.heap.size w w'):w.grownBy w' none:=⟨hb.os,hb.tape,hb.output,hb.size,fun k hk _=>hb.block k hk⟩
theorem owns_take {w:World} {B e n cap k:Nat} {a:Option Addr} {l:List Value}(h:w.ownsRow B e 1 (.slice a n cap) n l)(hk:k≤n)(h0:0<n):w.ownsRow B e 1 (.slice a k cap) k (l.take k):=by
 have hl:=h.1
 refine⟨by rw[List.length_take,hl];omega,?_⟩
 rcases h.2 with ⟨he,hn⟩|⟨g,c,cur,he,hb,hg,hnc,hcm,hcs,ht⟩
 ·omega
 ·simp only[Value.slice.injEq] at he
  obtain⟨rfl,-,rfl⟩:=he
  refine .inr ⟨g,_,cur,rfl,hb,hg,by omega,hcm,hcs,?_⟩
  rw[← ht]
  simp only[Nat.mul_one,List.take_take]
  congr 1
  omega
theorem own_block {w:World} {B e n cap:Nat} {a:Option Addr} {l:List Value} {s:Nat}(h:w.ownsRow B e s (.slice a n cap) n l)(h0:0<n):∃g,a=some ⟨g,0,none⟩∧B≤g∧g<w.heap.size∧n≤cap∧cap≤maxLen:=by
 rcases h.2 with ⟨he,hn⟩|⟨g,c,cur,he,hb,hg,hnc,hcm,hcs,ht⟩
 ·omega
 ·simp only[Value.slice.injEq] at he
  obtain⟨rfl,-,rfl⟩:=he
  exact⟨g,rfl,hb,(Array.getElem?_eq_some_iff.1 hg).1,hnc,hcm⟩
def encE:Option (Nat×Int)→Value
 | none=>.agg #[.pointer none,.int .i64 0]
 | some (g,r)=>.agg #[.pointer (some ⟨g,0,none⟩),.int .i64 r]
def encO:Option Nat→Value
 | none=>.map none
 | some b=>.map (some b)
def datE:Option (Nat×Int)→DataW Unit
 | none=>.nil
 | some (g,r)=>.agg [.lit (.int .i64 g),.lit (.int .i64 r)]
def datO:Option Nat→DataW Unit
 | none=>.nil
 | some b=>.lit (.int .i64 b)
open Classical in
noncomputable def redE (v:Value):Option (DataW Unit×List MemPlace):=if h:∃x,v=encE x then some (datE h.choose,[]) else none
open Classical in
noncomputable def redO (v:Value):Option (DataW Unit×List MemPlace):=if h:∃x,v=encO x then some (datO h.choose,[]) else none
theorem encO_inj {x y:Option Nat}(h:encO x=encO y):x=y:=by
 cases x <;> cases y <;> simp[encO] at h ⊢
 exact h
theorem datO_inj {x y:Option Nat}(h:datO x=datO y):x=y:=by
 cases x <;> cases y <;> simp[datO] at h ⊢
 omega
theorem redO_enc (x:Option Nat):redO (encO x)=some (datO x,[]):=by
 unfold redO
 have h:∃y,encO x=encO y:=⟨x,rfl⟩
 rw[dif_pos h,← encO_inj h.choose_spec]
theorem redO_inv {v:Value} {x:Option Nat} {ps:List MemPlace}(h:redO v=some (datO x,ps)):v=encO x:=by
 unfold redO at h
 split at h
 ·rename_i h'
  simp only[Option.some.injEq,Prod.mk.injEq] at h
  rw[← datO_inj h.1];exact h'.choose_spec
 ·cases h
theorem keyed3:Keyed Tryz.prog 3:=int_keyed Tryz.underlying3
def IMap (w:World) (b n:Nat) (f:Int→Option (Nat×Int)):Prop:=
 ∃D:DataW Unit,w.ownsMap Tryz.prog 3 redE b n D∧IsMap D∧∀k,D.atKey (.int .i64 k) .nil=datE (f k)∧Maps.has D (.int .i64 k)=(f k).isSome
def OMap (w:World) (b n:Nat) (f:Int→Option Nat):Prop:=
 ∃D:DataW Unit,w.ownsMap Tryz.prog 3 redO b n D∧IsMap D∧∀k,D.atKey (.int .i64 k) .nil=datO (f k)
theorem zero42 (w:World):(zeroValue 180).run Tryz.prog w=.ok (encO none) w:=by kernel_rfl
theorem OMap.look {w:World} {b n:Nat} {f:Int→Option Nat}(h:OMap w b n f) {k:Int}(hk:(Lit.int .i64 k).wf=true):(Instr.lookup 176 (.map (some b)) (.int .i64 k) false).run Tryz.prog w=.ok (encO (f k)) w:=by
 obtain⟨D,hD,hm,hf⟩:=h
 obtain⟨v,ps,hr,hv⟩:=hD.lookup keyed3 Tryz.underlying176 (zero42 w) (redO_enc none) (keyOf_int_mk Tryz.underlying3 hk)
 rw[show datO none=.nil from rfl,hf k] at hv
 rw[hr,redO_inv hv]
theorem ikey (k:Int):WideAt.IsKeyLit (Lit.int .i64 k):=trivial
theorem lit_ne {k k':Int}(h:k'≠k):(Lit.int .i64 k':Lit)≠Lit.int .i64 k:=fun e=>h (by injection e)
theorem OMap.put {w:World} {b n:Nat} {f:Int→Option Nat}(h:OMap w b n f) {k:Int}(hk:(Lit.int .i64 k).wf=true)(hn:n<maxLen) (g:Nat):∃w',(Instr.mapUpdate 176 (.map (some b)) (.int .i64 k) (encO (some g))).run Tryz.prog w=.ok () w'∧OMap w' b (n+1) (fun j=>if j=k then some g else f j)∧w.grownBy w' (some b):=by
 obtain⟨D,hD,hm,hf⟩:=h
 obtain⟨w',hr,ho,hg⟩:=hD.update keyed3 Tryz.underlying176 hn (keyOf_int_mk Tryz.underlying3 hk) (redO_enc (some g))
 refine⟨w',hr,⟨_,ho,hm.put _ _,fun j=>?_⟩,hg⟩
 by_cases hj:j=k
 ·subst hj
  exact(atKey_put_same hm (ikey _) _ _).trans (by simp)
 ·dsimp only
  rw[if_neg hj]
  exact(atKey_put_other (lit_ne hj) _ _).trans (hf j)
theorem IMap.kept {w w':World} {b n:Nat} {f:Int→Option (Nat×Int)} {row:Option Nat}(h:IMap w b n f)(hg:w.grownBy w' row)(hne:some b≠row):IMap w' b n f:=by
 obtain⟨D,hD,hm,hf⟩:=h
 exact⟨D,hD.kept hg hne,hm,hf⟩
theorem OMap.kept {w w':World} {b n:Nat} {f:Int→Option Nat} {row:Option Nat}(h:OMap w b n f)(hg:w.grownBy w' row)(hne:some b≠row):OMap w' b n f:=by
 obtain⟨D,hD,hm,hf⟩:=h
 exact⟨D,hD.kept hg hne,hm,hf⟩
theorem IMap.made (w:World):IMap (w.alloc (.map #[] 0)) w.heap.size 0 (fun _=>none):=
 ⟨_,World.ownsMap_made w _ _ _,isMap_empty,fun k=>⟨rfl,rfl⟩⟩
theorem OMap.made (w:World):OMap (w.alloc (.map #[] 0)) w.heap.size 0 (fun _=>none):=
 ⟨_,World.ownsMap_made w _ _ _,isMap_empty,fun k=>rfl⟩
structure Upd (S:Nat→Prop) (w w':World):Prop where
 os:w'.os=w.os
 tape:w'.tape=w.tape
 output:w'.output=w.output
 size:w.heap.size≤w'.heap.size
 block:∀k,k<w.heap.size→¬S k→w'.heap[k]?=w.heap[k]?
section
variable {S S':Nat→Prop} {w w' a b c:World}
theorem Upd.refl (S:Nat→Prop) (w:World):Upd S w w:=⟨rfl,rfl,rfl,Nat.le_refl _,fun _ _ _=>rfl⟩
theorem Upd.trans' (h:Upd S a b) (k:Upd S' b c)(hs:∀i,i<a.heap.size→S' i→S i):Upd S a c:=
 ⟨k.os.trans h.os,k.tape.trans h.tape,k.output.trans h.output,Nat.le_trans h.size k.size,fun i hi hn=>(k.block i (Nat.lt_of_lt_of_le hi h.size) (fun e=>hn (hs i hi e))).trans (h.block i hi hn)⟩
theorem Upd.trans (h:Upd S a b) (k:Upd S b c):Upd S a c:=h.trans' k (fun _ _ e=>e)
theorem Upd.mono (h:Upd S a b)(hs:∀i,i<a.heap.size→S i→S' i):Upd S' a b:=
 ⟨h.os,h.tape,h.output,h.size,fun i hi hn=>h.block i hi (fun e=>hn (hs i hi e))⟩
theorem Upd.below (h:Below w.heap.size w w'):Upd S w w':=⟨h.os,h.tape,h.output,h.size,fun i hi _=>h.block i hi⟩
theorem Upd.grown {b:Nat}(h:w.grownBy w' (some b))(hb:S b):Upd S w w':=⟨h.os,h.tape,h.output,h.size,fun i hi hn=>h.block i hi (by intro e;injection e with e;subst e;exact hn hb)⟩
theorem Upd.grown0 {row:Option Nat}(h:w.grownBy w' row)(hb:∀b,row=some b→b<w.heap.size→S b):Upd S w w':=⟨h.os,h.tape,h.output,h.size,fun i hi hn=>h.block i hi (fun e=>hn (hb i e.symm hi))⟩
theorem Upd.set (w:World) {b i:Nat} (v:Value)(hb:S b):Upd S w (w.setCell ⟨b,i,none⟩ v):=
 ⟨rfl,rfl,rfl,by simp[World.setCell],fun k hk hn=>Below.heap_setCell _ _ _ _ (by intro e;subst e;exact hn hb)⟩
theorem Upd.setRow (w:World) {b:Nat} (C:Array Value)(hb:S b):Upd S w (w.setRow b C):=
 ⟨rfl,rfl,rfl,by simp[World.setRow],fun k hk hn=>setRow_other w b k C (by intro e;subst e;exact hn hb)⟩
theorem Upd.drewN (w:World) (n:Nat):Upd S w (w.drewN n):=⟨rfl,rfl,rfl,Nat.le_refl _,fun _ _ _=>rfl⟩
theorem Upd.drew (w:World):Upd S w w.drew:=⟨rfl,rfl,rfl,Nat.le_refl _,fun _ _ _=>rfl⟩
theorem Upd.alloc (w:World) (o:Obj):Upd S w (w.alloc o):=Upd.below ((Below.refl _ _).alloc (Nat.le_refl _) o)
theorem Upd.cell (h:Upd S w w') {b o:Nat}(hb:b<w.heap.size)(hn:¬S b):w'.cell? ⟨b,o,none⟩=w.cell? ⟨b,o,none⟩:=by
 have:=h.block b hb hn
 simp only[World.cell?,this]
theorem Upd.frozen (h:Upd S w w') {b o:Nat}(hb:b<w.heap.size)(hn:¬S b):w'.frozen? ⟨b,o,none⟩=w.frozen? ⟨b,o,none⟩:=by
 have:=h.block b hb hn
 simp only[World.frozen?,this]
theorem Upd.toBelow {B:Nat}(h:Upd S w w')(hB:B≤w.heap.size)(hs:∀k,k<B→¬S k):Below B w w':=
 ⟨h.os,h.tape,h.output,h.size,fun k hk=>h.block k (by omega) (hs k hk)⟩
theorem Upd.owns {B e s n:Nat} {v:Value} {l:List Value}(h:Upd S w w')(ho:w.ownsRow B e s v n l)(hn:∀g,v.ownBlock=some g→¬S g):w'.ownsRow B e s v n l:=by
 refine⟨ho.1,?_⟩
 rcases ho.2 with h0|⟨g,c,cur,he,hb,hg,hr⟩
 ·exact .inl h0
 ·exact .inr ⟨g,c,cur,he,hb,(h.block g (Array.getElem?_eq_some_iff.1 hg).1 (hn g (by rw[he];rfl))).trans hg,hr⟩
end
theorem set_same {w:World} {b i:Nat} {x y:Value}(h:w.cell? ⟨b,i,none⟩=some y):(w.setCell ⟨b,i,none⟩ x).cell? ⟨b,i,none⟩=some x:=by
 simp[go_sem,h]
theorem set_off {w:World} {b c i j:Nat} {x v:Value}(hj:j≠i)(h:w.cell? ⟨b,j,none⟩=some v):(w.setCell ⟨c,i,none⟩ x).cell? ⟨b,j,none⟩=some v:=by
 rw[World.cell?_setCell_other _ _ _ _ (by intro e;exact hj (by simpa using (congrArg Addr.off e).symm))];exact h
theorem set_blk {w:World} {b c i j:Nat} {x v:Value}(hj:b≠c)(h:w.cell? ⟨b,j,none⟩=some v):(w.setCell ⟨c,i,none⟩ x).cell? ⟨b,j,none⟩=some v:=by
 rw[World.cell?_setCell_other _ _ _ _ (by intro e;exact hj (by simpa using (congrArg Addr.block e).symm))];exact h
theorem grown_cell {w w':World} {row:Option Nat}(h:w.grownBy w' row) {b o:Nat}(hlt:b<w.heap.size)(hne:some b≠row):w'.cell? ⟨b,o,none⟩=w.cell? ⟨b,o,none⟩:=by
 have:=h.block b hlt hne
 simp only[World.cell?,this]
theorem grown_frozen {w w':World} {row:Option Nat}(h:w.grownBy w' row) {b o:Nat}(hlt:b<w.heap.size)(hne:some b≠row):w'.frozen? ⟨b,o,none⟩=w.frozen? ⟨b,o,none⟩:=by
 have:=h.block b hlt hne
 simp only[World.frozen?,this]
theorem below_drewN {B:Nat} {a w:World}(h:Below B a w) (n:Nat):Below B a (w.drewN n):=⟨h.os,h.tape,h.output,h.size,h.block⟩
theorem info5:(Tryz.prog.info? 5).map (fun i=>(i.zero,i.size,i.bytes))=some (some (.int .u8 0),1,1):=by kernel_rfl
abbrev u8V (x:Int):Value:=.int .u8 x
theorem u8V_one (l:List Int):∀u∈l.map u8V,u.oneCell'=true:=by
 intro u hu
 obtain⟨x,_,rfl⟩:=List.mem_map.1 hu
 rfl
theorem cells_u8 {w:World} {b off:Nat} {l:List Int}(h:∀i,i<l.length→w.cell? ⟨b,off+i,none⟩=some (u8V (l.getD i 0))):∀j u,(l.map u8V)[j]?=some u→w.cell? ((⟨b,off,none⟩:Addr).add j)=some u:=by
 intro j u hj
 rw[Addr.add_lit]
 rw[List.getElem?_map] at hj
 have hlt:j<l.length:=by
  rcases Nat.lt_or_ge j l.length with h|h
  ·exact h
  ·rw[List.getElem?_eq_none h] at hj;cases hj
 rw[h j hlt]
 simp[hlt] at hj
 simp[List.getD,hlt,hj]
def CloneB (l:List Int) (w:World) (e:Ending) (w':World):Prop:=∃v',e=.returned v'∧w'.ownsRow w.heap.size 5 1 v' l.length (l.map u8V)∧Below w.heap.size w w'
theorem cloneB_is {w:World} {v:Value} {l:List Int}(h8:l.length≤140737488355328)(hm:At (Value.int .u8) 0 w v l):Calls Tryz.prog 105 #[v] w (CloneB l w):=by
 obtain⟨a,cap,rfl,hl,hcap,hm⟩:=hm
 have q22:∀(w:World) (a:Option Addr) (n c n' c':Nat),(binOp .eql 22 (.slice a n c) (.slice none n' c')).run Tryz.prog w=.ok (.bool a.isNone) w:=fun w a n c n' c'=>Lib.run_eql_slice_nil w _ _ a n c n' c' Tryz.underlying22
 cases a with
 | none=>
  have h0:l=[]:=by
   rcases hm with h|⟨b,off,h,_⟩
   ·exact h
   ·cases h
  subst h0
  clear hm
  go_enter Tryz.func105,Tryz.ntmps105
  go_wp2
  go_ret
  exact⟨_,rfl,World.ownsRow_nil _ _ _ _,Below.refl _ _⟩
 | some ad=>
  have hcl:∀j u,(l.map u8V)[j]?=some u→w.cell? (ad.add j)=some u:=by
   rcases hm with h|⟨b,off,hab,hlt,hc⟩
   ·intro j u hj
    subst h
    simp at hj
   ·simp only[Option.some.injEq] at hab
    subst hab
    exact fun j u hj=>cells_u8 hc j u hj
  have hlen:(l.map u8V).length=l.length*1:=by simp
  have hone:=u8V_one l
  obtain⟨n,hn⟩:∃n,n=l.length:=⟨_,rfl⟩
  unfold CloneB
  rw[← hn] at h8 hl hlen ⊢
  generalize l.map u8V=cs at *
  have HC:=Lib.hid hcl
  have HO:=Lib.hid hone
  have H8:=Lib.hid h8
  clear hm hn hcl hone h8
  obtain⟨i0,hi,hz0,hz1,hz2⟩:=info_parts info5
  go_enter Tryz.func105,Tryz.ntmps105
  go_wp2_with (at_builtin;go_loud (refine wpList_append_fresh _ rfl (.tmp 5) (.tmp 6) 22 rfl w.heap.size 5 i0 (.int .u8 0) 1 1 Tryz.underlying22 hi hz0 hz1 hz2 rfl (by decide) _ _ _ rfl (World.ownsRow_made w #[] 0 (Nat.le_refl _) (Nat.zero_le _) rfl) ad n _ cs rfl hlen (fun j u h=>by have:=HC.out j u h;rw[World.cell?_alloc_lt];exact this;exact World.block_lt_of_cell? w _ this) HO.out (by have:=H8.out;unfold maxLen;omega) (by have:=H8.out;omega) (by simp) ?_))
  intro v' w1 hown hgrow hfresh
  have hb1:Below w.heap.size w w1:=((Below.refl _ _).alloc (Nat.le_refl _) _).grown hgrow (by simp) (fun g hg=>by simp[Value.ownBlock] at hg;omega)
  clear hgrow hfresh
  rcases hown.2 with ⟨rfl,hn⟩|⟨g,cap',cur,rfl,hb,hg,hnc,hcm,hcs,htake⟩
  ·go_wp2
   go_ret
   exact⟨_,rfl,by simpa using hown,hb1⟩
  ·clear hb hg hnc hcm hcs htake
   go_wp2
   go_ret
   exact⟨_,rfl,by simpa using hown,hb1⟩
def BK (w:World) (g:Nat) (l:List Int):Prop:=w.heap[g]?=some (.cells (l.map u8V).toArray 5 (0,0))
theorem BK.lt {w:World} {g:Nat} {l:List Int}(h:BK w g l):g<w.heap.size:=(Array.getElem?_eq_some_iff.1 h).1
theorem BK.cell {w:World} {g:Nat} {l:List Int}(h:BK w g l) {i:Nat}(hi:i<l.length):w.cell? ⟨g,i,none⟩=some (u8V (l.getD i 0)):=by
 rw[cell_of_row w g i _ 5 (0,0) h]
 simp[List.getD,hi]
theorem BK.keepB {w w':World} {B g:Nat} {l:List Int}(h:BK w g l)(hb:Below B w w')(hB:g<B):BK w' g l:=(hb.block g hB).trans h
theorem BK.keep {w w':World} {g:Nat} {l:List Int}(h:BK w g l)(hb:Below w.heap.size w w'):BK w' g l:=h.keepB hb h.lt
theorem BK.kept {w w':World} {g:Nat} {l:List Int} {row:Option Nat}(h:BK w g l)(hg:w.grownBy w' row)(hne:some g≠row):BK w' g l:=(hg.block g h.lt hne).trans h
theorem bk_new (w:World) (l:List Int):BK (w.alloc (.cells (l.map u8V).toArray 5)) w.heap.size l:=heap_alloc_new w _
def sect (f:List Int) (k:Nat):List Int:=(f.drop (k*64)).take 64
theorem sect_len {f:List Int} {k S:Nat}(hf:f.length=S*64)(hk:k<S):(sect f k).length=64:=by
 unfold sect
 rw[List.length_take,List.length_drop,hf]
 omega
theorem sect_get {f:List Int} {k j:Nat}(hj:j<64):(sect f k).getD j 0=f.getD (k*64+j) 0:=by
 simp[sect,List.getD_eq_getElem?_getD,List.getElem?_take,hj]
structure Dk (w:World) (D sb nb:Nat) (wv:Value) (m S:Nat) (s f:List Int):Prop where
 c0:w.cell? ⟨D,0,none⟩=some (.slice (some ⟨sb,0,none⟩) (S*64) (S*64))
 c1:w.cell? ⟨D,1,none⟩=some (.slice (some ⟨nb,0,none⟩) (S*64) (S*64))
 c2:w.cell? ⟨D,2,none⟩=some wv
 c3:w.cell? ⟨D,3,none⟩=some (.int .i64 (-1))
 fz:∀j,w.frozen? ⟨D,j,none⟩=false
 lt:D<w.heap.size
 sB:BK w sb s
 nB:BK w nb f
 ls:s.length=S*64
 lf:f.length=S*64
 own:∃xs,w.ownsRow 0 107 2 wv m xs
 n1:D≠sb
 n2:D≠nb
 n3:sb≠nb
 o0:wv.ownBlock≠some D
 o1:wv.ownBlock≠some sb
 o2:wv.ownBlock≠some nb
 S0:1≤S
 S1:S≤256
section
variable {w w':World} {D sb nb m S:Nat} {wv:Value} {s f:List Int}
theorem Dk.keep (h:Dk w D sb nb wv m S s f)(hb:Below w.heap.size w w'):Dk w' D sb nb wv m S s f:=by
 have k:∀ {o v},w.cell? ⟨D,o,none⟩=some v→w'.cell? ⟨D,o,none⟩=some v:=fun hc=>(hb.cell (p:=⟨D,_,none⟩) h.lt).trans hc
 obtain⟨xs,ho⟩:=h.own
 exact⟨k h.c0,k h.c1,k h.c2,k h.c3,fun j=>(hb.frozen (p:=⟨D,j,none⟩) h.lt).trans (h.fz j),Nat.lt_of_lt_of_le h.lt hb.size,h.sB.keep hb,h.nB.keep hb,h.ls,h.lf,⟨xs,owns_keep ho hb⟩,h.n1,h.n2,h.n3,h.o0,h.o1,h.o2,h.S0,h.S1⟩
theorem goes_is (h:Dk w D sb nb wv m S s f):Calls Tryz.prog 104 #[.pointer (some ⟨D,0,none⟩)] w fun e w'=>e=.returned (.bool true)∧w=w':=by
 have c3:=h.c3
 clear h
 go_enter Tryz.func104,Tryz.ntmps104
 go_wp2_with fail
 go_ret
 exact⟨rfl,rfl⟩
theorem size_is (h:Dk w D sb nb wv m S s f):Calls Tryz.prog 40 #[.pointer (some ⟨D,0,none⟩)] w fun e w'=>e=.returned (.int .i64 S)∧w=w':=by
 have c1:=h.c1
 have s1:=h.S1
 obtain⟨n,hn⟩:∃n,n=S*64:=⟨_,rfl⟩
 rw[← hn] at c1
 have q:(n:Int) / 64=S:=by omega
 have q2:(n:Int).tdiv 64=S:=by rw[Int.tdiv_eq_ediv_of_nonneg (by omega)];exact q
 have b0:(n:Int)≤16384:=by omega
 have y3:IntKind.i64.wrap (S:Int)=S:=IntWalk.i64_in _ (by omega)
 clear h hn
 go_enter Tryz.func40,Tryz.ntmps40
 go_wp2_with fail
 go_ret
 exact⟨rfl,rfl⟩
theorem read_is (h:Dk w D sb nb wv m S s f) {k:Nat}(hk:k<S):Calls Tryz.prog 47 #[.pointer (some ⟨D,0,none⟩),.int .i64 k] w fun e w'=>∃v,e=.returned (.tuple #[v,.int .i64 0])∧w'.ownsRow w.heap.size 5 1 v 64 ((sect f k).map u8V)∧Below w.heap.size w w':=by
 have c1:=h.c1
 have s1:=h.S1
 have HSZ:=Lib.hid (size_is h)
 have hat:At (Value.int .u8) 0 w (.slice (some ⟨nb,k*64,none⟩) 64 (S*64-k*64)) (sect f k):=by
  have hl:=sect_len h.lf hk
  refine⟨_,_,by rw[hl],by omega,by unfold maxLen;omega,.inr ⟨nb,k*64,rfl,h.nB.lt,fun i hi=>?_⟩⟩
  rw[hl] at hi
  rw[sect_get hi]
  exact h.nB.cell (by rw[h.lf];omega)
 have HCL:=Lib.hid (cloneB_is (by rw[sect_len h.lf hk];omega) hat)
 have HLN:=Lib.hid (sect_len h.lf hk)
 obtain⟨n,hn⟩:∃n,n=S*64:=⟨_,rfl⟩
 rw[← hn] at c1 HCL
 have i0:¬(k:Int)<0:=by omega
 have i1:¬(S:Int)≤(k:Int):=by omega
 have b0:(n:Int)≤16384:=by omega
 have b1:(k:Int)*64+64≤n:=by omega
 have HN:=Lib.hid hn
 clear h hat hn
 go_enter Tryz.func47,Tryz.ntmps47
 go_upto_region 3 with (go_at_call 40;refine HSZ.out.mono ?_;rintro e1 w1 ⟨rfl,rfl⟩)
 go_wp2_with (go_at_call 105;rw[show (k+1)*64-k*64=64 by omega];refine HCL.out.mono ?_;rintro e2 w2 ⟨v2,rfl,ho2,hb2⟩;rw[HLN.out] at ho2)
 go_ret2
 exact⟨v2,rfl,ho2,hb2⟩
end
def copyB:=Builtin.copy_ #[22,22] 3
theorem copyB_eq:Builtin.copy_ #[22,22] 3=copyB:=rfl
theorem BK.setRow {w:World} {g:Nat} {l:List Int}(h:BK w g l) (l':List Int):BK (w.setRow g (l'.map u8V).toArray) g l':=setRow_heap w g _ _ 5 _ h
theorem run_copyB {w:World} {g o dL dC sL sC sb so:Nat} {cur cs:List Int}(hg:BK w g cur)(hn:cs.length=Nat.min sL dL)(hs:∀i,i<cs.length→w.cell? ⟨sb,so+i,none⟩=some (u8V (cs.getD i 0)))(hf:o+cs.length≤cur.length) :
  (copyB #[.slice (some ⟨g,o,none⟩) dL dC,.slice (some ⟨sb,so,none⟩) sL sC]).run Tryz.prog w=.ok (.int .i64 cs.length) (w.setRow g ((splice cur o cs).map u8V).toArray):=by
 have h:=run_copy_row (P:=Tryz.prog) w 22 22 3 5 g o dL dC ⟨sb,so,none⟩ sL sC (cur.map u8V).toArray 5 (cs.map u8V) Tryz.underlying22 (by kernel_rfl) hg (by simpa using hn) (cells_u8 hs) (by simpa using hf) (u8V_one cs)
 have e:((cur.map u8V).toArray.toList.take o++cs.map u8V++(cur.map u8V).toArray.toList.drop (o+(cs.map u8V).length)).toArray=((splice cur o cs).map u8V).toArray:=by
  simp[splice,List.map_take,List.map_drop]
 rw[e] at h
 rw[← copyB_eq,h]
 simp[goInt]
def Dset (D sb nb:Nat) (wv:Value):Nat→Prop:=fun k=>k=D∨k=sb∨k=nb∨wv.ownBlock=some k
theorem BK.upd {S:Nat→Prop} {w w':World} {g:Nat} {l:List Int}(h:BK w g l)(hu:Upd S w w')(hn:¬S g):BK w' g l:=(hu.block g h.lt hn).trans h
section
variable {w w':World} {D sb nb m S:Nat} {wv:Value} {s f:List Int}
theorem Dk.flushed (h:Dk w D sb nb wv m S s f):Dk ((w.drew.setRow sb (f.map u8V).toArray).setCell ⟨D,2,none⟩ (.slice none 0 0)) D sb nb (.slice none 0 0) 0 S f f:=by
 have u1:Upd (fun k=>k=sb) w (w.drew.setRow sb (f.map u8V).toArray):=(Upd.drew w).trans (Upd.setRow w.drew _ rfl)
 have k:∀ {o v},w.cell? ⟨D,o,none⟩=some v→(w.drew.setRow sb (f.map u8V).toArray).cell? ⟨D,o,none⟩=some v:=fun hc=>(u1.cell h.lt h.n1).trans hc
 have u2:Upd (fun k=>k=D) (w.drew.setRow sb (f.map u8V).toArray) ((w.drew.setRow sb (f.map u8V).toArray).setCell ⟨D,2,none⟩ (.slice none 0 0)):=Upd.set _ _ rfl
 refine⟨set_off (by decide) (k h.c0),set_off (by decide) (k h.c1),set_same (k h.c2),set_off (by decide) (k h.c3),fun j=>?_,?_,?_,?_,h.lf,h.lf,⟨[],World.ownsRow_nil _ _ _ _⟩,h.n1,h.n2,h.n3,by simp[Value.ownBlock],by simp[Value.ownBlock],by simp[Value.ownBlock],h.S0,h.S1⟩
 ·rw[World.frozen?_setCell];exact(u1.frozen h.lt h.n1).trans (h.fz j)
 ·exact Nat.lt_of_lt_of_le h.lt (Nat.le_trans u1.size u2.size)
 ·have:BK w.drew sb s:=h.sB
  exact(this.setRow f).upd u2 (fun e=>h.n1 e.symm)
 ·exact(h.nB.upd u1 (fun e=>h.n3 e.symm)).upd u2 (fun e=>h.n2 e.symm)
attribute [local go_sem ↓] copyB_eq
theorem flush_is (h:Dk w D sb nb wv m S s f):Calls Tryz.prog 46 #[.pointer (some ⟨D,0,none⟩)] w fun e w'=>e=.returned (.tuple #[])∧Dk w' D sb nb (.slice none 0 0) 0 S f f∧Upd (fun k=>k=D∨k=sb) w w':=by
 have c0:=h.c0
 have c1:=h.c1
 have c2:=h.c2
 have fz:(w.drew.setRow sb (f.map u8V).toArray).frozen? ⟨D,2,none⟩=false:=(((Upd.drew (S:=fun k=>k=sb) w).trans (Upd.setRow w.drew _ rfl)).frozen h.lt h.n1).trans (h.fz 2)
 have c2':(w.drew.setRow sb (f.map u8V).toArray).cell? ⟨D,2,none⟩=some wv:=(((Upd.drew (S:=fun k=>k=sb) w).trans (Upd.setRow w.drew _ rfl)).cell h.lt h.n1).trans c2
 have HGO:=Lib.hid (goes_is h)
 have HFL:=Lib.hid h.flushed
 have HUP:=Lib.hid (((Upd.drew (S:=fun k=>k=D∨k=sb) w).trans (Upd.setRow w.drew (f.map u8V).toArray (.inr rfl))).trans (Upd.set (i:=2) _ (.slice none 0 0) (.inl rfl)))
 have hcp:(copyB #[.slice (some ⟨sb,0,none⟩) (S*64) (S*64),.slice (some ⟨nb,0,none⟩) (S*64) (S*64)]).run Tryz.prog w.drew=.ok (.int .i64 ((S*64:Nat):Int)) (w.drew.setRow sb (f.map u8V).toArray):=by
  have:=run_copyB (w:=w.drew) (g:=sb) (o:=0) (dL:=S*64) (dC:=S*64) (sL:=S*64) (sC:=S*64) (sb:=nb) (so:=0) (cur:=s) (cs:=f) h.sB (by rw[h.lf];exact(Nat.min_self _).symm) (fun i hi=>by rw[Nat.zero_add];exact h.nB.cell hi) (by rw[h.lf,h.ls];omega)
  have e:splice s 0 f=f:=by
   have e1:=h.lf
   have e2:=h.ls
   simp[splice]
   omega
  rw[e,h.lf] at this
  exact this
 obtain⟨n,hn⟩:∃n,n=S*64:=⟨_,rfl⟩
 have b0:(n:Int)≤16384:=by have:=h.S1;omega
 rw[← hn] at c0 c1 hcp
 generalize w.drew.setRow sb (f.map u8V).toArray=w1 at *
 clear h hn
 go_enter Tryz.func46,Tryz.ntmps46
 go_upto_region 1 with (go_at_call 104;refine HGO.out.mono ?_;rintro e1 w1 ⟨rfl,rfl⟩)
 go_region
 go_wp2_with fail
 (try simp only[Exit.inBlock,Exit.then]);first|(refine bodyPost_ret (results_none rfl _ _ _) rfl ?_)|(refine bodyPost_end (results_none rfl _ _ _) rfl ?_)
 exact⟨rfl,HFL.out,HUP.out⟩
end
end Go.Proofs.YtfkepfncgdlgoaaGreatDoor
