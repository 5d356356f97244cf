/- Rows of structs that name a sector and its bytes, in one block: loads, stores, who owns them. The walk of slices.SortFunc at few rows of journal.Write. Printed by gen_sortw.py. The walk of slices.SortFunc at few rows of lift.Req. Printed by gen_sortw.py. The walks of the comparisons: fs.writes$1, lift.far, lift.part$1; of lift.Order$1. -/
import Derived.Test.YtfkepfncgdlgoaaGreatDoorBaB
import Derived.Deep.RegionHeld3
import Derived.BigQuiet
import Derived.BigRegion
import Derived.Test.YtfkepfncgdlgoaaGreatDoorForest
namespace Go.Proofs.YtfkepfncgdlgoaaGreatDoor
open Go.RowKit
set_option linter.unusedVariables false
set_option linter.unusedSimpArgs false
set_option maxRecDepth 100000
set_option maxHeartbeats 4000000
theorem flat_len {α:Type} (A:α→Array Value) (K:Nat)(hA:∀x,(A x).size=K):∀l:List α,(l.flatMap fun x=>(A x).toList).length=l.length*K
 | []=>by simp
 | y::l=>by
  rw[List.flatMap_cons,List.length_append,flat_len A K hA l,List.length_cons,Array.length_toList,hA,Nat.add_mul,Nat.one_mul,Nat.add_comm]
theorem flat_get {α:Type} (A:α→Array Value) (K:Nat)(hA:∀x,(A x).size=K):∀(l:List α) {i j:Nat} {x:α},l[i]?=some x→j<K→(l.flatMap fun x=>(A x).toList)[i*K+j]?=(A x)[j]?
 | [],i,j,x,h,_=>by simp at h
 | y::l,0,j,x,h,hj=>by
  simp only[List.getElem?_cons_zero,Option.some.injEq] at h
  subst h
  rw[List.flatMap_cons,List.getElem?_append_left (by simp[hA];omega),Nat.zero_mul,Nat.zero_add,Array.getElem?_toList]
 | y::l,i+1,j,x,h,hj=>by
  rw[List.getElem?_cons_succ] at h
  have e:(i+1)*K=i*K+K:=by rw[Nat.add_mul,Nat.one_mul]
  rw[List.flatMap_cons,List.getElem?_append_right (by simp[hA];omega),Array.length_toList,hA]
  rw[show (i+1)*K+j-K=i*K+j by omega]
  exact flat_get A K hA l h hj
structure SR (T K:Nat) (A:WR→Array Value) (w:World) (g cap:Nat) (l:List WR):Prop where
 row:∃C,Row w g T C∧C.size=cap*K∧∀i x,l[i]?=some x→∀j,j<K→C[i*K+j]?=(A x)[j]?
 le:l.length≤cap
 lm:cap≤maxLen
section
variable {T K:Nat} {A:WR→Array Value} {w w':World} {g cap:Nat} {l:List WR}
theorem SR.lt (h:SR T K A w g cap l):g<w.heap.size:=by
 obtain⟨C,h1,_⟩:=h.row
 exact h1.lt
theorem SR.upd {S:Nat→Prop}(h:SR T K A w g cap l)(hu:Upd S w w')(hn:¬S g):SR T K A w' g cap l:=by
 obtain⟨C,h1,h2,h3⟩:=h.row
 exact⟨⟨C,h1.upd hu hn,h2,h3⟩,h.le,h.lm⟩
theorem SR.keep (h:SR T K A w g cap l)(hb:Below w.heap.size w w'):SR T K A w' g cap l:=h.upd (S:=fun _=>False) (Upd.below hb) (fun e=>e)
theorem idx_le {i n K:Nat}(hi:i<n):i*K+K≤n*K:=by
 have:=Nat.mul_le_mul_right K (show i+1≤n from hi)
 rw[Nat.add_mul,Nat.one_mul] at this
 exact this
theorem SR.cell (h:SR T K A w g cap l) {i:Nat} {x:WR}(hx:l[i]?=some x) {j:Nat}(hj:j<K):w.cell? ⟨g,i*K+j,none⟩=(A x)[j]?:=by
 obtain⟨C,h1,h2,h3⟩:=h.row
 rw[h1.cell,h3 i x hx j hj]
theorem SR.ld (h:SR T K A w g cap l)(hA:∀x,(A x).size=K) {d:TypeDesc}(hu:Tryz.prog.underlying T=some d)(hd:d.isRow=true)(hi:(Tryz.prog.info? T).map (·.size)=some K) {i:Nat} {x:WR}(hx:l[i]?=some x):(ldR T (.pointer (some ⟨g,i*K,none⟩))).run Tryz.prog w=.ok (.agg (A x)) w:=by
 obtain⟨C,h1,h2,h3⟩:=h.row
 have hil:i<l.length:=(List.getElem?_eq_some_iff.1 hx).1
 have hle:=idx_le (K:=K) (Nat.lt_of_lt_of_le hil h.le)
 rw[h1.ld (o:=i*K) (n:=K) (by omega) hu hd hi]
 have e:C.extract (i*K) (i*K+K)=A x:=by
  apply Array.ext_getElem?
  intro j
  by_cases hj:j<K
  ·rw[← h3 i x hx j hj,Array.getElem?_extract,if_pos (by omega)]
  ·rw[Array.getElem?_eq_none (by simp;omega),Array.getElem?_eq_none (by rw[hA];omega)]
 rw[e]
theorem SR.st (h:SR T K A w g cap l)(hA:∀x,(A x).size=K)(hi:(Tryz.prog.info? T).map (·.size)=some K) {i:Nat}(hil:i<l.length) {y:WR}(h1:(A y).all (·.oneCell')=true):∃w',(stR T (.pointer (some ⟨g,i*K,none⟩)) (.agg (A y))).run Tryz.prog w=.ok () w'∧SR T K A w' g cap (l.set i y)∧Upd (fun j=>j=g) w w':=by
 obtain⟨C,r1,r2,r3⟩:=h.row
 have hle:=idx_le (K:=K) (Nat.lt_of_lt_of_le hil h.le)
 have hl:i*K+(A y).toList.length≤C.size:=by rw[Array.length_toList,hA];omega
 refine⟨_,r1.st (U:=T) (o:=i*K) (cs:=A y) (by rw[hA];omega) (by rw[hA];exact hi) h1,⟨⟨_,r1.setRow _,by rw[putA_size hl];exact r2,fun k x hx j hj=>?_⟩,by rw[List.length_set];exact h.le,h.lm⟩,Upd.setRow w _ rfl⟩
 rw[putA_get hl,Array.length_toList,hA]
 by_cases e:k=i
 ·subst e
  rw[List.getElem?_set_self hil] at hx
  obtain rfl:=Option.some.inj hx
  rw[if_pos (by omega),Nat.add_sub_cancel_left,Array.getElem?_toList]
 ·rw[List.getElem?_set_ne (fun q=>e q.symm)] at hx
  have hk:k<l.length:=(List.getElem?_eq_some_iff.1 hx).1
  have hne:¬(i*K≤k*K+j∧k*K+j<i*K+K):=by
   intro q
   rcases Nat.lt_or_gt_of_ne e with q2|q2
   ·have:=idx_le (K:=K) q2
    omega
   ·have:=idx_le (K:=K) q2
    omega
  rw[if_neg hne,r3 k x hx j hj]
theorem SR.of_owns {B n:Nat} {v:Value}(h:w.ownsRow B T K v n (l.flatMap fun x=>(A x).toList))(hA:∀x,(A x).size=K)(hn:n=l.length)(h0:l≠[]):∃g cap,v=.slice (some ⟨g,0,none⟩) l.length cap∧B≤g∧SR T K A w g cap l:=by
 subst hn
 rcases h.2 with ⟨_,hn⟩|⟨g,c,cur,he,hb,hg,hnc,hcm,hcs,ht⟩
 ·exact absurd (List.length_eq_zero_iff.1 hn) h0
 ·refine⟨g,c,he,hb,⟨cur,hg,hcs,fun i x hx j hj=>?_⟩,hnc,hcm⟩
  have hi:i<l.length:=(List.getElem?_eq_some_iff.1 hx).1
  have hle:=idx_le (K:=K) hi
  rw[← flat_get A K hA l hx hj,← ht,List.getElem?_take,if_pos (by omega),Array.getElem?_toList]
end
theorem perm_swap {l:List WR} {j:Nat} {x y:WR}(hx:l[j+1]?=some x)(hy:l[j]?=some y):((l.set (j+1) y).set j x).Perm l:=by
 obtain⟨i1,e1⟩:=List.getElem?_eq_some_iff.1 hx
 obtain⟨i0,e0⟩:=List.getElem?_eq_some_iff.1 hy
 have h:l=l.take j++(y::x::l.drop (j+2)):=by
  conv=>lhs;rw[← List.take_append_drop j l,List.drop_eq_getElem_cons i0,List.drop_eq_getElem_cons i1,e0,e1]
 have h2:(l.set (j+1) y).set j x=l.take j++(x::y::l.drop (j+2)):=by
  have hl:(l.take j).length=j:=by rw[List.length_take];omega
  conv=>lhs;rw[h]
  rw[List.set_append_right _ _ (by omega),hl,show j+1-j=1 by omega,List.set_append_right _ _ (by omega),hl,Nat.sub_self]
  rfl
 rw[h2]
 conv=>rhs;rw[h]
 exact List.Perm.append_left _ (List.Perm.swap _ _ _)
theorem all_one (A:WR→Array Value) (f:WR→Value)(h:∀z,(f z).oneCell'=true→(A z).all (·.oneCell')=true) {z:WR}(hz:(f z).oneCell'=true):(A z).all (·.oneCell')=true:=h z hz
def wrA (x:WR):Array Value:=#[.int .i64 x.n,x.v]
def rqA (x:WR):Array Value:=#[.int .i64 x.n,x.v,.bool false]
theorem ld_Wr (v:Value):Instr.loadAt 228 v=ldR 228 v:=rfl
theorem st_Wr (p v:Value):Instr.storeAt 228 p v=stR 228 p v:=rfl
theorem wrA_size (x:WR):(wrA x).size=2:=rfl
abbrev SWr (w:World) (g cap:Nat) (l:List WR):Prop:=SR 228 2 wrA w g cap l
section
variable {w w':World} {g cap:Nat} {l:List WR}
theorem SWr.ld (h:SWr w g cap l) {i:Nat} {x:WR}(hx:l[i]?=some x):(ldR 228 (.pointer (some ⟨g,i*2,none⟩))).run Tryz.prog w=.ok (.agg (wrA x)) w:=SR.ld h wrA_size Tryz.underlying228 rfl (by kernel_rfl) hx
theorem SWr.swap (h:SWr w g cap l) {j:Nat} {x y:WR}(hx:l[j+1]?=some x)(hy:l[j]?=some y)(hxo:x.v.oneCell'=true)(hyo:y.v.oneCell'=true) :
  ∃w1 w2,(stR 228 (.pointer (some ⟨g,(j+1)*2,none⟩)) (.agg (wrA y))).run Tryz.prog w=.ok () w1∧(stR 228 (.pointer (some ⟨g,j*2,none⟩)) (.agg (wrA x))).run Tryz.prog w1=.ok () w2∧SWr w2 g cap ((l.set (j+1) y).set j x)∧Upd (fun k=>k=g) w w1∧Upd (fun k=>k=g) w w2∧((l.set (j+1) y).set j x).Perm l:=by
 have i1:j+1<l.length:=(List.getElem?_eq_some_iff.1 hx).1
 obtain⟨w1,r1,s1,u1⟩:=SR.st h wrA_size (by kernel_rfl) i1 (y:=y) (all_one wrA (fun z=>z.v) (fun z hz=>by simp only[wrA];rw[List.all_toArray];simp only[List.all_cons,List.all_nil,hz,Bool.and_true];rfl) hyo)
 obtain⟨w2,r2,s2,u2⟩:=SR.st s1 wrA_size (by kernel_rfl) (i:=j) (by rw[List.length_set];omega) (y:=x) (all_one wrA (fun z=>z.v) (fun z hz=>by simp only[wrA];rw[List.all_toArray];simp only[List.all_cons,List.all_nil,hz,Bool.and_true];rfl) hxo)
 refine⟨w1,w2,r1,r2,s2,u1,u1.trans u2,?_⟩
 exact perm_swap hx hy
attribute [local go_sem ↓] ld_Wr st_Wr
theorem isortWr_is (P:World→Prop)(hP:∀w w',P w→Upd (fun j=>j=g) w w'→P w')(hC:∀(w:World) (x y:WR),P w→x.n<256→y.n<256→Calls Tryz.prog 136 #[.agg (wrA x),.agg (wrA y)] w fun e w'=>e=.returned (.int .i64 ((x.n:Int)-y.n))∧Below w.heap.size w w')(h:SWr w g cap l)(hp:P w)(ho:∀x∈l,x.v.oneCell'=true∧x.n<256) {n:Nat}(hn:n=l.length)(h12:n≤12) :
  Calls Tryz.prog 273 #[.slice (some ⟨g,0,none⟩) n cap,.int .i64 0,.int .i64 n,.func (Fn.func 136) #[] #[]] w fun e w'=>e=.returned (.tuple #[])∧(∃l',l'.Perm l∧SWr w' g cap l')∧Upd (fun j=>j=g) w w':=by
 have HN:=Lib.hid hn
 have HH:=Lib.hid h
 have HO:=Lib.hid ho
 have HC:=Lib.hid hC
 have HPP:=Lib.hid hP
 have HP:=Lib.hid hp
 have hcap:n≤cap:=by rw[hn];exact h.le
 clear hn h ho hC hP hp
 go_enter Tryz.func273,Tryz.ntmps273
 go_wp2_with fail
 go_loopw [8] (fun iv wr=>∃i:Nat,i≤n+1∧iv=.int .i64 ((i:Int)+1)∧Hid (∃l',l'.Perm l∧SWr wr g cap l')∧Hid (Upd (fun j=>j=g) w wr)) (fun iv _=>n+2-(intOf iv).toNat)
 case atStart=>exact⟨0,by omega,rfl,Lib.hid ⟨l,List.Perm.refl _,HH.out⟩,Lib.hid (Upd.refl _ _)⟩
 case round=>
  obtain⟨i,hi,rfl,HL,HU⟩:=hrel
  by_cases hlt:i+1<n
  ·have hlti:(i:Int)+1<n:=by omega
   go_wp2_with fail
   obtain⟨wo,rfl⟩:∃y:World,y=wr:=⟨_,rfl⟩
   go_loopw [9] (fun jv wx=>∃j:Nat,j≤i+1∧jv=.int .i64 j∧Hid (∃l',l'.Perm l∧SWr wx g cap l')∧Hid (Upd (fun j=>j=g) w wx)) (fun jv _=>(intOf jv).toNat)
   case atStart=>exact⟨i+1,Nat.le_refl _,by go_num,HL,HU⟩
   case round=>
    obtain⟨j,hj,rfl,HL2,HU2⟩:=hrel
    rcases Nat.eq_zero_or_pos j with rfl|hjp
    ·have hd:decide ((0:Int)<((0:Nat):Int))=false:=by decide
     have hd2:¬(0:Int)<((0:Nat):Int):=by decide
     have hd3:decide ((0:Int)<(0:Int))=false:=by decide
     go_wp2_with fail
     go_quiet (fail)
     go_wp2_with fail
     refine⟨⟨i+1,by omega,by go_num,Lib.hid ?_,Lib.hid (HU2.out.trans (Upd.drewN _ _))⟩,by simp[intOf];omega⟩
     obtain⟨l',p',s'⟩:=HL2.out
     exact⟨l',p',s'.keep (below_drewN (Below.refl _ _) _)⟩
    ·obtain⟨k,rfl⟩:∃k,j=k+1:=⟨j-1,by omega⟩
     obtain⟨l',p',s'⟩:=HL2.out
     have hl':=p'.length_eq
     obtain⟨x,hx⟩:∃x,l'[k+1]?=some x:=⟨_,List.getElem?_eq_getElem (by have:=HN.out;omega)⟩
     obtain⟨y,hy⟩:∃y,l'[k]?=some y:=⟨_,List.getElem?_eq_getElem (by have:=HN.out;omega)⟩
     have hxo:=HO.out x (p'.mem_iff.1 (List.mem_of_getElem? hx))
     have hyo:=HO.out y (p'.mem_iff.1 (List.mem_of_getElem? hy))
     have hd:decide ((0:Int)<((k:Int)+1))=true:=decide_eq_true (by omega)
     have hd2:(0:Int)<(k:Int)+1:=by omega
     have hk1:(k:Int)+1<n:=by omega
     have hk0:(k:Int)<n:=by omega
     have HS:Hid (∀wz,Upd (fun _=>False) wr wz→(ldR 228 (.pointer (some ⟨g,(k+1)*2,none⟩))).run Tryz.prog wz=.ok (.agg (wrA x)) wz∧(ldR 228 (.pointer (some ⟨g,k*2,none⟩))).run Tryz.prog wz=.ok (.agg (wrA y)) wz):=Lib.hid (fun wz hu=>⟨SWr.ld (s'.upd hu (fun e=>e)) hx,SWr.ld (s'.upd hu (fun e=>e)) hy⟩)
     have HX:=Lib.hid (And.intro hx (And.intro hy (And.intro hxo.1 hyo.1)))
     have HS':=Lib.hid s'
     have HP':=Lib.hid p'
     have HXN:=Lib.hid (And.intro hxo.2 hyo.2)
     clear hx hy hxo hyo hl' s' p'
     obtain⟨r,hr⟩:∃r:Int,r=(x.n:Int)-y.n:=⟨_,rfl⟩
     have hrb:-256<r∧r<256:=by have:=HXN.out;omega
     have HC2:Hid (∀w,P w→Calls Tryz.prog 136 #[.agg (wrA x),.agg (wrA y)] w fun e w'=>e=.returned (.int .i64 r)∧Below w.heap.size w w'):=Lib.hid (fun w hw=>by rw[hr];exact HC.out w x y hw HXN.out.1 HXN.out.2)
     clear hr
     have HPW:Hid (∀wz,Upd (fun j=>j=g) w wz→P wz):=Lib.hid (fun wz hu=>HPP.out w wz HP.out hu)
     have q1:IntKind.i64.wrap (k:Int)=k:=IntWalk.i64_in _ (by omega)
     have q2:(k:Int)+1-1=k:=by omega
     have q3:¬(k:Int)<0:=by omega
     have b1:(0:Int)≤(k:Int)+1:=by omega
     have b2:(0:Int)≤(k:Int):=by omega
     have b3:¬(k:Int)+1<0:=by omega
     have b4:k+1<n:=by omega
     have b5:k<n:=by omega
     have b6:(k:Int)+1≤n:=by omega
     have q4:((k:Int)+1).toNat=k+1:=by omega
     have q5:(k:Int).toNat=k:=by omega
     by_cases hr0:r<0
     ·have e0:decide (r<0)=true:=decide_eq_true hr0
      go_wp2_with fail
      go_region_held3 (fun wz=>(ldR 228 (.pointer (some ⟨g,(k+1)*2,none⟩))).run Tryz.prog wz=.ok (.agg (wrA x)) wz∧(ldR 228 (.pointer (some ⟨g,k*2,none⟩))).run Tryz.prog wz=.ok (.agg (wrA y)) wz) (first|(with_reducible exact HS.out _ (Upd.refl _ _))|(with_reducible exact HS.out _ (Upd.drew _))|(with_reducible exact HS.out _ (Upd.drewN _ _))|(with_reducible exact HS3.out)|fail) (first|(go_at_call 136;(with_reducible refine(HC2.out _ (HPW.out _ (HU2.out.trans (Upd.drew _)))).mono ?_);rintro e2 w2 ⟨rfl,hb2⟩;have HB2:=Lib.hid hb2;have HS3:=Lib.hid (HS.out w2 ((Upd.drew _).trans (Upd.below hb2)));clear hb2)|fail)
      all_goals
       have hu2:Upd (fun j=>j=g) wr w2:=(Upd.drew _).trans (Upd.below HB2.out)
       have hs2:SWr w2.drew g cap l':=HS'.out.upd (S:=fun _=>False) (((Upd.drew _).trans (Upd.below HB2.out)).trans (Upd.drew _)) (fun e=>e)
       obtain⟨m1,m2⟩:=And.intro (SWr.ld hs2 HX.out.1) (SWr.ld hs2 HX.out.2.1)
       obtain⟨w3,w4,r3,r4,hs4,hu3,hu4,hpm⟩:=SWr.swap hs2 HX.out.1 HX.out.2.1 HX.out.2.2.1 HX.out.2.2.2
       have HS4:=Lib.hid hs4
       have HU4:Hid (Upd (fun j=>j=g) wr w4):=Lib.hid (hu2.trans ((Upd.drew _).trans hu4))
       have HPM:=Lib.hid (hpm.trans HP'.out)
       clear hs2 hu2 hu3 hu4 hs4 hpm
       go_wp2_with fail
       go_region
       go_wp2_with fail
       go_roundw
       case rel=>exact⟨k,by omega,by go_num,Lib.hid ⟨_,HPM.out,HS4.out⟩,Lib.hid (HU2.out.trans HU4.out)⟩
       case measure=>first|(simp[intOf];done)|(simp[intOf];omega)
     ·have e0:decide (r<0)=false:=decide_eq_false hr0
      go_wp2_with fail
      go_region_held3 (fun wz=>(ldR 228 (.pointer (some ⟨g,(k+1)*2,none⟩))).run Tryz.prog wz=.ok (.agg (wrA x)) wz∧(ldR 228 (.pointer (some ⟨g,k*2,none⟩))).run Tryz.prog wz=.ok (.agg (wrA y)) wz) (first|(with_reducible exact HS.out _ (Upd.refl _ _))|(with_reducible exact HS.out _ (Upd.drew _))|(with_reducible exact HS.out _ (Upd.drewN _ _))|(with_reducible exact HS3.out)|fail) (first|(go_at_call 136;(with_reducible refine(HC2.out _ (HPW.out _ (HU2.out.trans (Upd.drew _)))).mono ?_);rintro e2 w2 ⟨rfl,hb2⟩;have HB2:=Lib.hid hb2;have HS3:=Lib.hid (HS.out w2 ((Upd.drew _).trans (Upd.below hb2)));clear hb2)|fail)
      all_goals
       have HU5:Hid (Upd (fun _=>False) wr w2):=Lib.hid ((Upd.drew _).trans (Upd.below HB2.out))
       go_wp2_with fail
       refine⟨⟨i+1,by omega,by go_num,Lib.hid ⟨l',HP'.out,HS'.out.upd HU5.out (fun e=>e)⟩,Lib.hid (HU2.out.trans (HU5.out.mono (fun _ _ e=>e.elim)))⟩,by simp[intOf];omega⟩
  ·have hlti:¬(i:Int)+1<n:=by omega
   go_wp2_with fail
   (try simp only[Exit.inBlock,Exit.then]);first|(refine bodyPost_ret (results_none rfl _ _ _) rfl ?_)|(refine bodyPost_end (results_none rfl _ _ _) rfl ?_)
   exact⟨rfl,HL.out,HU.out⟩
theorem pdqWr_is (P:World→Prop)(hP:∀w w',P w→Upd (fun j=>j=g) w w'→P w')(hC:∀(w:World) (x y:WR),P w→x.n<256→y.n<256→Calls Tryz.prog 136 #[.agg (wrA x),.agg (wrA y)] w fun e w'=>e=.returned (.int .i64 ((x.n:Int)-y.n))∧Below w.heap.size w w')(h:SWr w g cap l)(hp:P w)(ho:∀x∈l,x.v.oneCell'=true∧x.n<256) {n:Nat}(hn:n=l.length)(h12:n≤12) (k:Value) :
  Calls Tryz.prog 213 #[.slice (some ⟨g,0,none⟩) n cap,.int .i64 0,.int .i64 n,k,.func (Fn.func 136) #[] #[]] w fun e w'=>e=.returned (.tuple #[])∧(∃l',l'.Perm l∧SWr w' g cap l')∧Upd (fun j=>j=g) w w':=by
 have HI:=Lib.hid (isortWr_is P hP hC h hp ho hn h12)
 have i0:(n:Int)≤12:=by omega
 clear h hp ho hn hC hP
 go_enter Tryz.func213,Tryz.ntmps213
 go_wp2_with fail
 refine wp_loop_rounds 1 ?_
 rw[rounds_succ]
 go_wp2_with (go_at_call 273;refine HI.out.mono ?_;rintro e1 w1 ⟨rfl,HE⟩)
 (try simp only[Exit.inBlock,Exit.then]);first|(refine bodyPost_ret (results_none rfl _ _ _) rfl ?_)|(refine bodyPost_end (results_none rfl _ _ _) rfl ?_)
 exact⟨rfl,HE⟩
theorem len64Wr_is (w:World) {n:Nat}(hn:n≤12):Calls Tryz.prog 282 #[.int .u64 n] w fun e w'=>(∃k,e=.returned (.int .i64 k))∧w=w':=by
 have:n=0∨n=1∨n=2∨n=3∨n=4∨n=5∨n=6∨n=7∨n=8∨n=9∨n=10∨n=11∨n=12:=by omega
 rcases this with rfl|rfl|rfl|rfl|rfl|rfl|rfl|rfl|rfl|rfl|rfl|rfl|rfl
 all_goals
  go_enter Tryz.func282,Tryz.ntmps282
  go_wp2_with fail
  go_ret
  exact⟨⟨_,rfl⟩,rfl⟩
theorem lenWr_is (w:World) {n:Nat}(hn:n≤12):Calls Tryz.prog 214 #[.int .u64 n] w fun e w'=>(∃k,e=.returned (.int .i64 k))∧w=w':=by
 have HI:=Lib.hid (len64Wr_is w hn)
 have hn1:(n:Int)≤12:=by omega
 go_enter Tryz.func214,Tryz.ntmps214
 go_wp2_with (go_at_call 282;refine HI.out.mono ?_;rintro e1 w1 ⟨⟨k,rfl⟩,rfl⟩)
 go_ret
 exact⟨⟨_,rfl⟩,rfl⟩
theorem sortWr_is (P:World→Prop)(hP:∀w w',P w→Upd (fun j=>j=g) w w'→P w')(hC:∀(w:World) (x y:WR),P w→x.n<256→y.n<256→Calls Tryz.prog 136 #[.agg (wrA x),.agg (wrA y)] w fun e w'=>e=.returned (.int .i64 ((x.n:Int)-y.n))∧Below w.heap.size w w')(h:SWr w g cap l)(hp:P w)(ho:∀x∈l,x.v.oneCell'=true∧x.n<256) {n:Nat}(hn:n=l.length)(h12:n≤12) :
  Calls Tryz.prog 135 #[.slice (some ⟨g,0,none⟩) n cap,.func (Fn.func 136) #[] #[]] w fun e w'=>e=.returned (.tuple #[])∧(∃l',l'.Perm l∧SWr w' g cap l')∧Upd (fun j=>j=g) w w':=by
 have HQ:=Lib.hid (fun k=>pdqWr_is P hP hC h hp ho hn h12 k)
 have HL:=Lib.hid (fun w=>lenWr_is w h12)
 have i0:(n:Int)≤12:=by omega
 clear h hp ho hn hC hP
 go_enter Tryz.func135,Tryz.ntmps135
 go_wp2_with (first|(go_at_call 214;(with_reducible refine(HL.out _).mono ?_);rintro e1 w1 ⟨⟨k,rfl⟩,rfl⟩)|(go_at_call 213;(with_reducible refine(HQ.out _).mono ?_);rintro e1 w1 ⟨rfl,HE⟩))
 (try simp only[Exit.inBlock,Exit.then]);first|(refine bodyPost_ret (results_none rfl _ _ _) rfl ?_)|(refine bodyPost_end (results_none rfl _ _ _) rfl ?_)
 exact⟨rfl,HE⟩
end
theorem ld_Rq (v:Value):Instr.loadAt 256 v=ldR 256 v:=rfl
theorem st_Rq (p v:Value):Instr.storeAt 256 p v=stR 256 p v:=rfl
theorem rqA_size (x:WR):(rqA x).size=3:=rfl
abbrev SRq (w:World) (g cap:Nat) (l:List WR):Prop:=SR 256 3 rqA w g cap l
section
variable {w w':World} {g cap:Nat} {l:List WR}
theorem SRq.ld (h:SRq w g cap l) {i:Nat} {x:WR}(hx:l[i]?=some x):(ldR 256 (.pointer (some ⟨g,i*3,none⟩))).run Tryz.prog w=.ok (.agg (rqA x)) w:=SR.ld h rqA_size Tryz.underlying256 rfl (by kernel_rfl) hx
theorem SRq.swap (h:SRq w g cap l) {j:Nat} {x y:WR}(hx:l[j+1]?=some x)(hy:l[j]?=some y)(hxo:x.v.oneCell'=true)(hyo:y.v.oneCell'=true) :
  ∃w1 w2,(stR 256 (.pointer (some ⟨g,(j+1)*3,none⟩)) (.agg (rqA y))).run Tryz.prog w=.ok () w1∧(stR 256 (.pointer (some ⟨g,j*3,none⟩)) (.agg (rqA x))).run Tryz.prog w1=.ok () w2∧SRq w2 g cap ((l.set (j+1) y).set j x)∧Upd (fun k=>k=g) w w1∧Upd (fun k=>k=g) w w2∧((l.set (j+1) y).set j x).Perm l:=by
 have i1:j+1<l.length:=(List.getElem?_eq_some_iff.1 hx).1
 obtain⟨w1,r1,s1,u1⟩:=SR.st h rqA_size (by kernel_rfl) i1 (y:=y) (all_one rqA (fun z=>z.v) (fun z hz=>by simp only[rqA];rw[List.all_toArray];simp only[List.all_cons,List.all_nil,hz,Bool.and_true];rfl) hyo)
 obtain⟨w2,r2,s2,u2⟩:=SR.st s1 rqA_size (by kernel_rfl) (i:=j) (by rw[List.length_set];omega) (y:=x) (all_one rqA (fun z=>z.v) (fun z hz=>by simp only[rqA];rw[List.all_toArray];simp only[List.all_cons,List.all_nil,hz,Bool.and_true];rfl) hxo)
 refine⟨w1,w2,r1,r2,s2,u1,u1.trans u2,?_⟩
 exact perm_swap hx hy
attribute [local go_sem ↓] ld_Rq st_Rq
theorem isortRq_is (hq:Nat) (P:World→Prop)(hP:∀w w',P w→Upd (fun j=>j=g) w w'→P w')(hC:∀(w:World) (x y:WR),P w→x.n<256→y.n<256→Calls Tryz.prog 319 #[.agg (rqA x),.agg (rqA y),.pointer (some ⟨hq,0,none⟩)] w fun e w'=>e=.returned (.int .i64 ((x.n:Int)-y.n))∧Below w.heap.size w w')(h:SRq w g cap l)(hp:P w)(ho:∀x∈l,x.v.oneCell'=true∧x.n<256) {n:Nat}(hn:n=l.length)(h12:n≤12) :
  Calls Tryz.prog 358 #[.slice (some ⟨g,0,none⟩) n cap,.int .i64 0,.int .i64 n,.func (Fn.func 319) #[] #[.pointer (some ⟨hq,0,none⟩)]] w fun e w'=>e=.returned (.tuple #[])∧(∃l',l'.Perm l∧SRq w' g cap l')∧Upd (fun j=>j=g) w w':=by
 have HN:=Lib.hid hn
 have HH:=Lib.hid h
 have HO:=Lib.hid ho
 have HC:=Lib.hid hC
 have HPP:=Lib.hid hP
 have HP:=Lib.hid hp
 have hcap:n≤cap:=by rw[hn];exact h.le
 clear hn h ho hC hP hp
 go_enter Tryz.func358,Tryz.ntmps358
 go_wp2_with fail
 go_loopw [8] (fun iv wr=>∃i:Nat,i≤n+1∧iv=.int .i64 ((i:Int)+1)∧Hid (∃l',l'.Perm l∧SRq wr g cap l')∧Hid (Upd (fun j=>j=g) w wr)) (fun iv _=>n+2-(intOf iv).toNat)
 case atStart=>exact⟨0,by omega,rfl,Lib.hid ⟨l,List.Perm.refl _,HH.out⟩,Lib.hid (Upd.refl _ _)⟩
 case round=>
  obtain⟨i,hi,rfl,HL,HU⟩:=hrel
  by_cases hlt:i+1<n
  ·have hlti:(i:Int)+1<n:=by omega
   go_wp2_with fail
   obtain⟨wo,rfl⟩:∃y:World,y=wr:=⟨_,rfl⟩
   go_loopw [9] (fun jv wx=>∃j:Nat,j≤i+1∧jv=.int .i64 j∧Hid (∃l',l'.Perm l∧SRq wx g cap l')∧Hid (Upd (fun j=>j=g) w wx)) (fun jv _=>(intOf jv).toNat)
   case atStart=>exact⟨i+1,Nat.le_refl _,by go_num,HL,HU⟩
   case round=>
    obtain⟨j,hj,rfl,HL2,HU2⟩:=hrel
    rcases Nat.eq_zero_or_pos j with rfl|hjp
    ·have hd:decide ((0:Int)<((0:Nat):Int))=false:=by decide
     have hd2:¬(0:Int)<((0:Nat):Int):=by decide
     have hd3:decide ((0:Int)<(0:Int))=false:=by decide
     go_wp2_with fail
     go_quiet (fail)
     go_wp2_with fail
     refine⟨⟨i+1,by omega,by go_num,Lib.hid ?_,Lib.hid (HU2.out.trans (Upd.drewN _ _))⟩,by simp[intOf];omega⟩
     obtain⟨l',p',s'⟩:=HL2.out
     exact⟨l',p',s'.keep (below_drewN (Below.refl _ _) _)⟩
    ·obtain⟨k,rfl⟩:∃k,j=k+1:=⟨j-1,by omega⟩
     obtain⟨l',p',s'⟩:=HL2.out
     have hl':=p'.length_eq
     obtain⟨x,hx⟩:∃x,l'[k+1]?=some x:=⟨_,List.getElem?_eq_getElem (by have:=HN.out;omega)⟩
     obtain⟨y,hy⟩:∃y,l'[k]?=some y:=⟨_,List.getElem?_eq_getElem (by have:=HN.out;omega)⟩
     have hxo:=HO.out x (p'.mem_iff.1 (List.mem_of_getElem? hx))
     have hyo:=HO.out y (p'.mem_iff.1 (List.mem_of_getElem? hy))
     have hd:decide ((0:Int)<((k:Int)+1))=true:=decide_eq_true (by omega)
     have hd2:(0:Int)<(k:Int)+1:=by omega
     have hk1:(k:Int)+1<n:=by omega
     have hk0:(k:Int)<n:=by omega
     have HS:Hid (∀wz,Upd (fun _=>False) wr wz→(ldR 256 (.pointer (some ⟨g,(k+1)*3,none⟩))).run Tryz.prog wz=.ok (.agg (rqA x)) wz∧(ldR 256 (.pointer (some ⟨g,k*3,none⟩))).run Tryz.prog wz=.ok (.agg (rqA y)) wz):=Lib.hid (fun wz hu=>⟨SRq.ld (s'.upd hu (fun e=>e)) hx,SRq.ld (s'.upd hu (fun e=>e)) hy⟩)
     have HX:=Lib.hid (And.intro hx (And.intro hy (And.intro hxo.1 hyo.1)))
     have HS':=Lib.hid s'
     have HP':=Lib.hid p'
     have HXN:=Lib.hid (And.intro hxo.2 hyo.2)
     clear hx hy hxo hyo hl' s' p'
     obtain⟨r,hr⟩:∃r:Int,r=(x.n:Int)-y.n:=⟨_,rfl⟩
     have hrb:-256<r∧r<256:=by have:=HXN.out;omega
     have HC2:Hid (∀w,P w→Calls Tryz.prog 319 #[.agg (rqA x),.agg (rqA y),.pointer (some ⟨hq,0,none⟩)] w fun e w'=>e=.returned (.int .i64 r)∧Below w.heap.size w w'):=Lib.hid (fun w hw=>by rw[hr];exact HC.out w x y hw HXN.out.1 HXN.out.2)
     clear hr
     have HPW:Hid (∀wz,Upd (fun j=>j=g) w wz→P wz):=Lib.hid (fun wz hu=>HPP.out w wz HP.out hu)
     have q1:IntKind.i64.wrap (k:Int)=k:=IntWalk.i64_in _ (by omega)
     have q2:(k:Int)+1-1=k:=by omega
     have q3:¬(k:Int)<0:=by omega
     have b1:(0:Int)≤(k:Int)+1:=by omega
     have b2:(0:Int)≤(k:Int):=by omega
     have b3:¬(k:Int)+1<0:=by omega
     have b4:k+1<n:=by omega
     have b5:k<n:=by omega
     have b6:(k:Int)+1≤n:=by omega
     have q4:((k:Int)+1).toNat=k+1:=by omega
     have q5:(k:Int).toNat=k:=by omega
     by_cases hr0:r<0
     ·have e0:decide (r<0)=true:=decide_eq_true hr0
      go_wp2_with fail
      go_region_held3 (fun wz=>(ldR 256 (.pointer (some ⟨g,(k+1)*3,none⟩))).run Tryz.prog wz=.ok (.agg (rqA x)) wz∧(ldR 256 (.pointer (some ⟨g,k*3,none⟩))).run Tryz.prog wz=.ok (.agg (rqA y)) wz) (first|(with_reducible exact HS.out _ (Upd.refl _ _))|(with_reducible exact HS.out _ (Upd.drew _))|(with_reducible exact HS.out _ (Upd.drewN _ _))|(with_reducible exact HS3.out)|fail) (first|(go_at_call 319;(with_reducible refine(HC2.out _ (HPW.out _ (HU2.out.trans (Upd.drew _)))).mono ?_);rintro e2 w2 ⟨rfl,hb2⟩;have HB2:=Lib.hid hb2;have HS3:=Lib.hid (HS.out w2 ((Upd.drew _).trans (Upd.below hb2)));clear hb2)|fail)
      all_goals
       have hu2:Upd (fun j=>j=g) wr w2:=(Upd.drew _).trans (Upd.below HB2.out)
       have hs2:SRq w2.drew g cap l':=HS'.out.upd (S:=fun _=>False) (((Upd.drew _).trans (Upd.below HB2.out)).trans (Upd.drew _)) (fun e=>e)
       obtain⟨m1,m2⟩:=And.intro (SRq.ld hs2 HX.out.1) (SRq.ld hs2 HX.out.2.1)
       obtain⟨w3,w4,r3,r4,hs4,hu3,hu4,hpm⟩:=SRq.swap hs2 HX.out.1 HX.out.2.1 HX.out.2.2.1 HX.out.2.2.2
       have HS4:=Lib.hid hs4
       have HU4:Hid (Upd (fun j=>j=g) wr w4):=Lib.hid (hu2.trans ((Upd.drew _).trans hu4))
       have HPM:=Lib.hid (hpm.trans HP'.out)
       clear hs2 hu2 hu3 hu4 hs4 hpm
       go_wp2_with fail
       go_region
       go_wp2_with fail
       go_roundw
       case rel=>exact⟨k,by omega,by go_num,Lib.hid ⟨_,HPM.out,HS4.out⟩,Lib.hid (HU2.out.trans HU4.out)⟩
       case measure=>first|(simp[intOf];done)|(simp[intOf];omega)
     ·have e0:decide (r<0)=false:=decide_eq_false hr0
      go_wp2_with fail
      go_region_held3 (fun wz=>(ldR 256 (.pointer (some ⟨g,(k+1)*3,none⟩))).run Tryz.prog wz=.ok (.agg (rqA x)) wz∧(ldR 256 (.pointer (some ⟨g,k*3,none⟩))).run Tryz.prog wz=.ok (.agg (rqA y)) wz) (first|(with_reducible exact HS.out _ (Upd.refl _ _))|(with_reducible exact HS.out _ (Upd.drew _))|(with_reducible exact HS.out _ (Upd.drewN _ _))|(with_reducible exact HS3.out)|fail) (first|(go_at_call 319;(with_reducible refine(HC2.out _ (HPW.out _ (HU2.out.trans (Upd.drew _)))).mono ?_);rintro e2 w2 ⟨rfl,hb2⟩;have HB2:=Lib.hid hb2;have HS3:=Lib.hid (HS.out w2 ((Upd.drew _).trans (Upd.below hb2)));clear hb2)|fail)
      all_goals
       have HU5:Hid (Upd (fun _=>False) wr w2):=Lib.hid ((Upd.drew _).trans (Upd.below HB2.out))
       go_wp2_with fail
       refine⟨⟨i+1,by omega,by go_num,Lib.hid ⟨l',HP'.out,HS'.out.upd HU5.out (fun e=>e)⟩,Lib.hid (HU2.out.trans (HU5.out.mono (fun _ _ e=>e.elim)))⟩,by simp[intOf];omega⟩
  ·have hlti:¬(i:Int)+1<n:=by omega
   go_wp2_with fail
   (try simp only[Exit.inBlock,Exit.then]);first|(refine bodyPost_ret (results_none rfl _ _ _) rfl ?_)|(refine bodyPost_end (results_none rfl _ _ _) rfl ?_)
   exact⟨rfl,HL.out,HU.out⟩
theorem pdqRq_is (hq:Nat) (P:World→Prop)(hP:∀w w',P w→Upd (fun j=>j=g) w w'→P w')(hC:∀(w:World) (x y:WR),P w→x.n<256→y.n<256→Calls Tryz.prog 319 #[.agg (rqA x),.agg (rqA y),.pointer (some ⟨hq,0,none⟩)] w fun e w'=>e=.returned (.int .i64 ((x.n:Int)-y.n))∧Below w.heap.size w w')(h:SRq w g cap l)(hp:P w)(ho:∀x∈l,x.v.oneCell'=true∧x.n<256) {n:Nat}(hn:n=l.length)(h12:n≤12) (k:Value) :
  Calls Tryz.prog 348 #[.slice (some ⟨g,0,none⟩) n cap,.int .i64 0,.int .i64 n,k,.func (Fn.func 319) #[] #[.pointer (some ⟨hq,0,none⟩)]] w fun e w'=>e=.returned (.tuple #[])∧(∃l',l'.Perm l∧SRq w' g cap l')∧Upd (fun j=>j=g) w w':=by
 have HI:=Lib.hid (isortRq_is hq P hP hC h hp ho hn h12)
 have i0:(n:Int)≤12:=by omega
 clear h hp ho hn hC hP
 go_enter Tryz.func348,Tryz.ntmps348
 go_wp2_with fail
 refine wp_loop_rounds 1 ?_
 rw[rounds_succ]
 go_wp2_with (go_at_call 358;refine HI.out.mono ?_;rintro e1 w1 ⟨rfl,HE⟩)
 (try simp only[Exit.inBlock,Exit.then]);first|(refine bodyPost_ret (results_none rfl _ _ _) rfl ?_)|(refine bodyPost_end (results_none rfl _ _ _) rfl ?_)
 exact⟨rfl,HE⟩
theorem len64Rq_is (w:World) {n:Nat}(hn:n≤12):Calls Tryz.prog 282 #[.int .u64 n] w fun e w'=>(∃k,e=.returned (.int .i64 k))∧w=w':=by
 have:n=0∨n=1∨n=2∨n=3∨n=4∨n=5∨n=6∨n=7∨n=8∨n=9∨n=10∨n=11∨n=12:=by omega
 rcases this with rfl|rfl|rfl|rfl|rfl|rfl|rfl|rfl|rfl|rfl|rfl|rfl|rfl
 all_goals
  go_enter Tryz.func282,Tryz.ntmps282
  go_wp2_with fail
  go_ret
  exact⟨⟨_,rfl⟩,rfl⟩
theorem lenRq_is (w:World) {n:Nat}(hn:n≤12):Calls Tryz.prog 214 #[.int .u64 n] w fun e w'=>(∃k,e=.returned (.int .i64 k))∧w=w':=by
 have HI:=Lib.hid (len64Rq_is w hn)
 have hn1:(n:Int)≤12:=by omega
 go_enter Tryz.func214,Tryz.ntmps214
 go_wp2_with (go_at_call 282;refine HI.out.mono ?_;rintro e1 w1 ⟨⟨k,rfl⟩,rfl⟩)
 go_ret
 exact⟨⟨_,rfl⟩,rfl⟩
theorem sortRq_is (hq:Nat) (P:World→Prop)(hP:∀w w',P w→Upd (fun j=>j=g) w w'→P w')(hC:∀(w:World) (x y:WR),P w→x.n<256→y.n<256→Calls Tryz.prog 319 #[.agg (rqA x),.agg (rqA y),.pointer (some ⟨hq,0,none⟩)] w fun e w'=>e=.returned (.int .i64 ((x.n:Int)-y.n))∧Below w.heap.size w w')(h:SRq w g cap l)(hp:P w)(ho:∀x∈l,x.v.oneCell'=true∧x.n<256) {n:Nat}(hn:n=l.length)(h12:n≤12) :
  Calls Tryz.prog 318 #[.slice (some ⟨g,0,none⟩) n cap,.func (Fn.func 319) #[] #[.pointer (some ⟨hq,0,none⟩)]] w fun e w'=>e=.returned (.tuple #[])∧(∃l',l'.Perm l∧SRq w' g cap l')∧Upd (fun j=>j=g) w w':=by
 have HQ:=Lib.hid (fun k=>pdqRq_is hq P hP hC h hp ho hn h12 k)
 have HL:=Lib.hid (fun w=>lenRq_is w h12)
 have i0:(n:Int)≤12:=by omega
 clear h hp ho hn hC hP
 go_enter Tryz.func318,Tryz.ntmps318
 go_wp2_with (first|(go_at_call 214;(with_reducible refine(HL.out _).mono ?_);rintro e1 w1 ⟨⟨k,rfl⟩,rfl⟩)|(go_at_call 348;(with_reducible refine(HQ.out _).mono ?_);rintro e1 w1 ⟨rfl,HE⟩))
 (try simp only[Exit.inBlock,Exit.then]);first|(refine bodyPost_ret (results_none rfl _ _ _) rfl ?_)|(refine bodyPost_end (results_none rfl _ _ _) rfl ?_)
 exact⟨rfl,HE⟩
end
section
attribute [local go_sem ↓] ld_Wr st_Wr
theorem cmpW_is (w:World) (x y:WR)(hx:x.n<256)(hy:y.n<256):Calls Tryz.prog 136 #[.agg (wrA x),.agg (wrA y)] w fun e w'=>e=.returned (.int .i64 ((x.n:Int)-y.n))∧Below w.heap.size w w':=by
 have hal:Below w.heap.size w ((w.alloc (.cells (wrA x) 228)).alloc (.cells (wrA y) 228)):=((Below.refl _ _).alloc (Nat.le_refl _) _).alloc (by simp) _
 have hr1:=(row_new w 228 (wrA x)).alloc (.cells (wrA y) 228)
 have hr2:=row_new (w.alloc (.cells (wrA x) 228)) 228 (wrA y)
 rw[size_alloc1] at hr2
 have d1:((w.alloc (.cells (wrA x) 228)).alloc (.cells (wrA y) 228)).cell? ⟨w.heap.size,0,none⟩=some (.int .i64 x.n):=by rw[hr1.cell];rfl
 have d2:((w.alloc (.cells (wrA x) 228)).alloc (.cells (wrA y) 228)).cell? ⟨w.heap.size+1,0,none⟩=some (.int .i64 y.n):=by rw[hr2.cell];rfl
 have HB:=Lib.hid hal
 have b1:-9223372036854775808≤(x.n:Int)-y.n:=by omega
 have b2:(x.n:Int)-y.n≤9223372036854775807:=by omega
 clear hal hr1 hr2
 go_enter Tryz.func136,Tryz.ntmps136
 go_wp2_with fail
 go_ret
 exact⟨rfl,HB.out⟩
end
theorem far0_is (w:World) {n:Nat}(hn:n<256):Calls Tryz.prog 320 #[.int .i64 0,.int .i64 n] w fun e w'=>e=.returned (.int .i64 n)∧w'=w:=by
 have h1:(n:Int)<256:=by omega
 go_enter Tryz.func320,Tryz.ntmps320
 go_wp2_with fail
 go_ret
 exact⟨ret_int (show ((n:Int) % 256+256) % 256=n by omega),rfl⟩
section
attribute [local go_sem ↓] ld_Rq st_Rq
theorem cmpR_is (w:World) (x y:WR) {q:Nat}(hq:w.cell? ⟨q,0,none⟩=some (.int .i64 0))(hx:x.n<256)(hy:y.n<256):Calls Tryz.prog 319 #[.agg (rqA x),.agg (rqA y),.pointer (some ⟨q,0,none⟩)] w fun e w'=>e=.returned (.int .i64 ((x.n:Int)-y.n))∧Below w.heap.size w w':=by
 have hal:Below w.heap.size w ((w.alloc (.cells (rqA x) 256)).alloc (.cells (rqA y) 256)):=((Below.refl _ _).alloc (Nat.le_refl _) _).alloc (by simp) _
 have hql:q<w.heap.size:=by
  rcases Nat.lt_or_ge q w.heap.size with h|h
  ·exact h
  ·rw[World.cell?,Array.getElem?_eq_none h] at hq;cases hq
 have d0:((w.alloc (.cells (rqA x) 256)).alloc (.cells (rqA y) 256)).cell? ⟨q,0,none⟩=some (.int .i64 0):=(hal.cell (p:=⟨q,0,none⟩) hql).trans hq
 have hr1:=(row_new w 256 (rqA x)).alloc (.cells (rqA y) 256)
 have hr2:=row_new (w.alloc (.cells (rqA x) 256)) 256 (rqA y)
 rw[size_alloc1] at hr2
 have d1:((w.alloc (.cells (rqA x) 256)).alloc (.cells (rqA y) 256)).cell? ⟨w.heap.size,0,none⟩=some (.int .i64 x.n):=by rw[hr1.cell];rfl
 have d2:((w.alloc (.cells (rqA x) 256)).alloc (.cells (rqA y) 256)).cell? ⟨w.heap.size+1,0,none⟩=some (.int .i64 y.n):=by rw[hr2.cell];rfl
 have HB:=Lib.hid hal
 have HF1:=Lib.hid (fun w=>far0_is w hx)
 have HF2:=Lib.hid (fun w=>far0_is w hy)
 have b1:-9223372036854775808≤(x.n:Int)-y.n:=by omega
 have b2:(x.n:Int)-y.n≤9223372036854775807:=by omega
 clear hal hr1 hr2 hq hql
 go_enter Tryz.func319,Tryz.ntmps319
 go_wp2_with fail
 go_quiet (first|(go_at_call 320;(with_reducible refine Calls.quiet_of_same (HF1.out _)))|(go_at_call 320;(with_reducible refine Calls.quiet_of_same (HF2.out _))))
 go_wp2_with fail
 go_ret
 refine⟨rfl,?_⟩
 exact below_drewN HB.out _
end
end Go.Proofs.YtfkepfncgdlgoaaGreatDoor
