/- Arguments that are structs of one-cell fields, opened: however many; a field that is a slice of ints. No program here. Arguments that are slices of bytes, opened. Arguments that are slices of truths, opened. -/
import Derived.Test.YtfkepfncgdlgoaaGreatDoorDisk2
import Derived.Lib.SmallJoins
import Derived.Test.YtfkepfncgdlgoaaGreatDoorRows
namespace Go.Proofs.YtfkepfncgdlgoaaGreatDoor
open Go.ChangeShapes Go.WideShapes Go.Deep Go.RowKit
set_option linter.unusedVariables false
set_option linter.unusedSimpArgs false
set_option maxRecDepth 100000
set_option maxHeartbeats 400000
section
variable {H:Type} {enc:TypeId×Value→H} {P:Program} {w:World} {base:Nat} {spare:Nat→Bool} {held:Bool}
theorem fld_bytes {t e:TypeId} {n:Nat} {v:Value} {y:DataW H×List MemPlace}(ht:P.underlying t=some (.slice e))(he:P.underlying e=some (.int .u8))(hc:P.cellsOf e=1)
  (h:DataW.trod enc P w base (fun _=>true) held n t [v]=some y):∃xs:List Int,At (Value.int .u8) 0 w v xs:=by
 rcases open_slice1 ht hc h with ⟨hcs,_⟩|⟨a,len,cap,m,n,V,D,Pl,hcs,hb,hl,hm,hmm,hx,hi⟩
 ·simp at hcs
  subst hcs
  exact⟨[],⟨none,0,rfl,Nat.le_refl _,Nat.zero_le _,.inl rfl⟩⟩
 ·simp at hcs
  subst hcs
  have hmc:m=cap:=by simpa using hmm
  obtain⟨g,hg⟩:=choose_lt (α:=Int) (n:=len) (p:=fun i x=>V i=.int .u8 x ) (fun i hil=>by
      obtain⟨z,hz,_,hw⟩:=DataW.trod_int he (hi i (by omega)).2
      exact⟨z,by simpa using hz⟩)
  refine⟨(List.range len).map g,⟨some a,cap,by simp,by simpa using hl,hm,?_⟩⟩
  ·by_cases h0:len=0
   ·subst h0;exact .inl rfl
   ·obtain⟨b,off,spot⟩:=a
    have hc0:=(hi 0 (by omega)).1
    have hspot:spot=none:=by simpa [Addr.add] using World.cell?_spot hc0
    subst hspot
    refine .inr ⟨b,off,rfl,?_,fun i hil=>?_⟩
    ·have:=World.block_lt_of_cell? w _ hc0
     rw[Addr.add_lit] at this
     exact this
    ·have hil':i<len:=by simpa using hil
     have:=(hi i (by omega)).1
     rw[Addr.add_lit,hg i hil'] at this
     simpa [List.getD,hil'] using this
theorem open_bytes {r:Reach} {b0:Nat} {v:Value} {d:DataW H} {p:List MemPlace}(hv:Value.okWide Tryz.prog w r b0 22 v)(h:DataW.Trod enc Tryz.prog w base (fun _=>true) held 22 v d p):∃l:List Int,At (Value.int .u8) 0 w v l∧True:=by
 obtain⟨a0,len0,cap0,rfl⟩:=okWide_slice Tryz.underlying22 hv
 obtain⟨fuel,hf⟩:=h
 obtain⟨xs,hxs⟩:=fld_bytes (v:=.slice a0 len0 cap0) Tryz.underlying22 Tryz.underlying5 (by kernel_rfl) hf
 exact⟨xs,hxs,trivial⟩
end
section
variable {H:Type} {enc:TypeId×Value→H} {P:Program} {w:World} {base:Nat} {spare:Nat→Bool} {held:Bool}
theorem fld_bools {t e:TypeId} {n:Nat} {v:Value} {y:DataW H×List MemPlace}(ht:P.underlying t=some (.slice e))(he:P.underlying e=some .bool)(hc:P.cellsOf e=1)
  (h:DataW.trod enc P w base (fun _=>true) held n t [v]=some y):∃xs:List Bool,At Value.bool false w v xs:=by
 rcases open_slice1 ht hc h with ⟨hcs,_⟩|⟨a,len,cap,m,n,V,D,Pl,hcs,hb,hl,hm,hmm,hx,hi⟩
 ·simp at hcs
  subst hcs
  exact⟨[],⟨none,0,rfl,Nat.le_refl _,Nat.zero_le _,.inl rfl⟩⟩
 ·simp at hcs
  subst hcs
  have hmc:m=cap:=by simpa using hmm
  obtain⟨g,hg⟩:=choose_lt (α:=Bool) (n:=len) (p:=fun i x=>V i=.bool x ) (fun i hil=>by
      obtain⟨z,hz,_⟩:=DataW.trod_bool he (hi i (by omega)).2
      exact⟨z,by simpa using hz⟩)
  refine⟨(List.range len).map g,⟨some a,cap,by simp,by simpa using hl,hm,?_⟩⟩
  ·by_cases h0:len=0
   ·subst h0;exact .inl rfl
   ·obtain⟨b,off,spot⟩:=a
    have hc0:=(hi 0 (by omega)).1
    have hspot:spot=none:=by simpa [Addr.add] using World.cell?_spot hc0
    subst hspot
    refine .inr ⟨b,off,rfl,?_,fun i hil=>?_⟩
    ·have:=World.block_lt_of_cell? w _ hc0
     rw[Addr.add_lit] at this
     exact this
    ·have hil':i<len:=by simpa using hil
     have:=(hi i (by omega)).1
     rw[Addr.add_lit,hg i hil'] at this
     simpa [List.getD,hil'] using this
theorem open_bools {r:Reach} {b0:Nat} {v:Value} {d:DataW H} {p:List MemPlace}(hv:Value.okWide Tryz.prog w r b0 23 v)(h:DataW.Trod enc Tryz.prog w base (fun _=>true) held 23 v d p):∃l:List Bool,At Value.bool false w v l∧True:=by
 obtain⟨a0,len0,cap0,rfl⟩:=okWide_slice Tryz.underlying23 hv
 obtain⟨fuel,hf⟩:=h
 obtain⟨xs,hxs⟩:=fld_bools (v:=.slice a0 len0 cap0) Tryz.underlying23 Tryz.underlying4 (by kernel_rfl) hf
 exact⟨xs,hxs,trivial⟩
end
end Go.Proofs.YtfkepfncgdlgoaaGreatDoor
