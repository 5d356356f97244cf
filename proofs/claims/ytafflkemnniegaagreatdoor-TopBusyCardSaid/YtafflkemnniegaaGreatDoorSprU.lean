/- The walk of space.Drop where others have all the space's pages, too. Walks of kernel.send (signal 7 to a process that has none), kernel.exit. The walks of package spread at any run: Pick, Tick. Runs of package spread: all processors tick. No walk here. -/
import Derived.Test.YtafflkemnniegaaGreatDoorSpM
import Derived.Test.YtafflkemnniegaaGreatDoorKerT
import Derived.Test.YtafflkemnniegaaGreatDoorProcWalk
import Derived.BigQuiet
namespace Go.Proofs.YtafflkemnniegaaGreatDoor
open Go.RowKit Go.Maps
set_option linter.unusedVariables false
set_option linter.unusedSimpArgs false
/-- the memory while a space is dropped whose pages others have -/
structure Shr (w : World) (m : MS) (M so : Nat) (fr sl : Int) (f : Int → Option (Nat × Int)) (left : Lit → Bool) (wr : World) (u' : Nat → Int) : Prop where
  mem : MemG wr M so fr sl { m with u := u' }
  u : ∀ g, u' g = if met f left g = true then m.u g - 1 else m.u g
  hu : Upd (mB M so m) w wr
  le : ∀ k, left (.int .i64 k) = true → (f k).isSome = true
/-- the state behind it -/
def MS.shared (m : MS) (u' : Nat → Int) (s : Int) : MS := { m with u := u', S := fun k => if k = s then none else m.S k }
section
variable {w w' wr : World} {M so g b : Nat} {fr sl : Int} {m : MS} {f : Int → Option (Nat × Int)} {left : Lit → Bool} {u' : Nat → Int}
theorem Shr.start (h : MemG w M so fr sl m) (hle : ∀ k, left (.int .i64 k) = (f k).isSome) : Shr w m M so fr sl f left w m.u := by
  refine ⟨h, fun g => ?_, Upd.refl _ _, fun k hk => by rw [← hle]; exact hk⟩
  rw [if_neg]
  intro e
  obtain ⟨k, r, hk, hk2⟩ := met_iff.1 e
  rw [hle, hk] at hk2
  cases hk2
theorem Shr.users (h : Shr w m M so fr sl f left wr u') (ha : Lone f) {x : Int} {r : Int} (hx : f x = some (g, r)) (hl : left (.int .i64 x) = true) : u' g = m.u g := by
  rw [h.u, if_neg]
  intro e
  obtain ⟨k, r', hk, hk2⟩ := met_iff.1 e
  rw [ha k x g r' r hk hx, hl] at hk2
  cases hk2
theorem Shr.next (h : Shr w m M so fr sl f left wr u') (ha : Lone f) {x : Int} {r : Int} (hx : f x = some (g, r)) (hl : left (.int .i64 x) = true) (hg : g ∈ m.pl) {w1 : World} (hm : MemG w1 M so fr sl { m with u := fup u' g (m.u g - 1) }) (hu : Upd (fun k => k = g) wr w1) :
    Shr w m M so fr sl f (fun z => left z && !z.sameKey (.int .i64 x)) w1 (fup u' g (m.u g - 1)) := by
  refine ⟨hm, fun q => ?_, h.hu.trans (hu.mono fun k _ e => by subst e; exact .inr (.inr (.inr (.inr hg)))), fun k hk => h.le k (by
    have hk : (left (.int .i64 k) && !(Lit.int .i64 k).sameKey (.int .i64 x)) = true := hk
    exact (Bool.and_eq_true _ _ ▸ hk).1)⟩
  rw [met_next ha hx hl q]
  by_cases e : q = g
  · subst e
    rw [fup_same, decide_eq_true rfl, Bool.or_true, if_pos rfl]
  · rw [fup_off _ _ e, decide_eq_false e, Bool.or_false]
    exact h.u q
set_option maxRecDepth 100000 in
set_option maxHeartbeats 1000000 in
theorem dropS_is (h : MemG w M so fr sl m) {s : Int} (hs : m.S s = some b) (hwf : (Lit.int .i64 s).wf = true) (ha : Lone (m.F b)) (hpl : ∀ k g r, m.F b k = some (g, r) → g ∈ m.pl ∧ 2 ≤ m.u g ∧ m.u g < 1000000) :
    Calls Tryz.prog 108 #[.pointer (some ⟨M, 0, none⟩), .int .i64 s] w fun e w' => e = .returned (.int .i64 0) ∧ ∃ u', (∀ g, (∃ k r, m.F b k = some (g, r)) → u' g = m.u g - 1) ∧ (∀ g, (¬ ∃ k r, m.F b k = some (g, r)) → u' g = m.u g) ∧ MemG w' M so fr sl (m.shared u' s) ∧ Upd (mB M so m) w w' := by
  have m4 := h.m4
  have l1 := h.om.look hwf
  rw [hs] at l1
  change _ = Result.ok (Value.map (some b)) w at l1
  have l2 := map_no_nil w b
  have HM := Lib.hid h
  have HW := Lib.hid (And.intro hs (And.intro hwf (And.intro ha hpl)))
  obtain ⟨D, hD, hm, hf⟩ := h.im s b hs
  have HF := Lib.hid hf
  have hbl := hD.lt
  clear h hs hwf ha hpl hm
  go_enter Tryz.func108, Tryz.ntmps108
  go_wp2_with (first | (at_range; refine wpList_range_own _ rfl _ 225 rfl 3 234 keyed3 Tryz.underlying225 redE b _ D rfl hD ?_; intro w0 hrg0 hg0 hs0) | fail)
  go_frame
  have HD0 : Hid (Shr w m M so fr sl (m.F b) (has D) w0 m.u) := Lib.hid (by
    have h1 := Shr.start (w := w0) (left := has D) (f := m.F b) (HM.out.upd (S := fun _ => False) (Upd.grown0 hg0 (fun b e => by cases e)) (fun _ _ e => e)) (fun k => (hf k).2)
    exact ⟨h1.mem, h1.u, Upd.grown0 hg0 (fun b e => by cases e), h1.le⟩)
  clear hg0 hs0 m4 l1 hf hD
  go_loopw [6] (fun _ wr => ∃ left cnt u', wr.ranges Tryz.prog 3 redE b w.heap.size (m.nF b) D left cnt ∧ Hid (Shr w m M so fr sl (m.F b) left wr u')) (fun _ wr => wr.rangeLeft b w.heap.size)
  case atStart => exact ⟨_, _, _, hrg0, HD0⟩
  case round =>
    clear hrg0 HD0
    obtain ⟨left, cnt, u', hrg, HD⟩ := hrel
    go_wp2_with (first | (at_next; refine wpList_next_ranges (α := Int) (β := Option (Nat × Int)) _ rfl _ rfl 3 keyed3 redE (Value.int .i64) encE (fun key kl hk => by obtain ⟨x, rfl, _⟩ := keyOf_int_inv Tryz.underlying3 hk; exact ⟨x, rfl⟩) (fun v y hv => redE_inv' hv) b w.heap.size _ _ _ _ rfl hrg ?_ ?_) | fail)
    · intro hc0 hl0
      have HL := Lib.hid hl0
      have m4 := HD.out.mem.m4
      obtain ⟨DO, hDO, hmO, hfO⟩ := HD.out.mem.om
      have HFO := Lib.hid (And.intro hmO hfO)
      clear hc0 hl0 hrg hmO hfO
      have hkey : keyOf Tryz.prog 3 (.int .i64 s) = some (.int .i64 s) := keyOf_int_mk Tryz.underlying3 HW.out.2.1
      go_wp2_with (first | (at_delete; refine wpList_delete_own _ rfl _ _ 221 3 rfl _ keyed3 Tryz.underlying221 redO so _ DO rfl hDO _ _ rfl hkey ?_; intro w2 hown2 hturn2) | fail)
      have HO2 : Hid (OMap w2 so m.nS (fun k => if k = s then none else m.S k)) := Lib.hid ⟨_, hown2, HFO.out.1.del _, fun j => by
        by_cases e : j = s
        · subst e
          rw [atKey_del_same]
          simp [datO]
        · rw [atKey_del_other (lit_ne e)]
          dsimp only
          rw [if_neg e]
          exact HFO.out.2 j⟩
      have HT2 := Lib.hid hturn2.grown
      clear hown2 hturn2
      go_ret
      have hM2 := HD.out.mem.outer (Upd.grown HT2.out rfl) HO2.out (fun s' b' e => by
        split at e
        · cases e
        · exact e)
      refine ⟨rfl, u', fun g k r hk => ?_, fun g hg => ?_, hM2, HD.out.hu.trans (Upd.grown HT2.out (.inr (.inl rfl)))⟩
      · rw [HD.out.u, if_pos (met_iff.2 ⟨k, r, hk, HL.out _⟩)]
      · rw [HD.out.u, if_neg]
        intro e
        obtain ⟨k, r, hk, _⟩ := met_iff.1 e
        exact hg k r hk
    · intro x c kl y yp w1 cnt1 hkey hlx hRy hat hrg1 hlt hg1 hs1 hen
      obtain ⟨x', ex, rfl, hwx⟩ := keyOf_int_inv Tryz.underlying3 hkey
      cases ex
      have hbr : b ≠ w.heap.size := fun e => by omega
      rw [redE_enc] at hRy
      have hRy := congrArg Prod.fst (Option.some.inj hRy)
      have hc : m.F b x = c := by
        have h1 := hat .nil
        rw [(HF.out x).1] at h1
        have h1 : datE (m.F b x) = datE c := h1.trans hRy.symm
        exact datE_inj h1
      have hsome := HD.out.le x hlx
      rw [hc] at hsome
      obtain ⟨⟨g, r⟩, rfl⟩ := Option.isSome_iff_exists.1 hsome
      rw [encE_some] at hen ⊢
      have hD1 := HD.out
      have hu1 : Upd (fun k => k = w.heap.size) wr w1 := Upd.grown hg1 rfl
      have hsz : w.heap.size < wr.heap.size := hrg.lt
      have hnb : ∀ k, mB M so m k → ¬ k = w.heap.size := fun k hk e => by
        have := HM.out.lt hk
        omega
      have HD1 : Hid (Shr w m M so fr sl (m.F b) left (w1.alloc (.cells #[.pointer (some ⟨g, 0, none⟩), .int .i64 r] 234)) u') := Lib.hid ⟨(hD1.mem.upd hu1 hnb).keep (Go.Joins.below_alloc1 _ _), hD1.u, (hD1.hu.trans' hu1 (fun k hk e => by omega)).trans (Upd.below (Go.Joins.below_alloc1 _ _)), hD1.le⟩
      have HRG := Lib.hid (hrg1.alloc (.cells #[.pointer (some ⟨g, 0, none⟩), .int .i64 r] 234))
      obtain ⟨hgm, hg2, hg3⟩ := HW.out.2.2.2 x g r hc
      have hug := HD1.out.users HW.out.2.2.1 hc hlx
      have HLET := Lib.hid (letS_is HD1.out.mem hgm hug hg2 hg3 r)
      have HI := Lib.hid (And.intro hgm (And.intro hc hlx))
      have HLT : Hid (cnt1 < cnt ∧ wr.rangeLeft b w.heap.size = cnt) := Lib.hid ⟨hlt, hrg.left_eq⟩
      have HNB := Lib.hid hnb
      clear hkey hlx hRy hat hrg1 hlt hg1 hs1 hrg hc hsome hD1 hu1 hnb hgm hug HD hg2 hg3
      go_wp2_with (first | (go_at_call 101; refine HLET.out.mono ?_; rintro e3 w3 ⟨rfl, hm3, hu3⟩) | fail)
      have hrg3 := ranges_upd HRG.out hu3 (fun e => by
        subst e
        exact (HM.out.n4 b HI.out.1).2.2.2 s HW.out.1) (fun e => HNB.out g (.inr (.inr (.inr (.inr HI.out.1)))) e.symm)
      have HD3 := Lib.hid (HD1.out.next HW.out.2.2.1 HI.out.2.1 HI.out.2.2 HI.out.1 hm3 hu3)
      clear hm3 hu3
      go_roundw
      case rel => exact ⟨_, cnt1, _, hrg3, HD3⟩
      case measure => rw [hrg3.left_eq, HLT.out.2]; exact HLT.out.1
end
end Go.Proofs.YtafflkemnniegaaGreatDoor
namespace Go.Proofs.YtafflkemnniegaaGreatDoor
open Go.RowKit
set_option linter.unusedVariables false
set_option linter.unusedSimpArgs false
theorem next0_is (w : World) : Calls Tryz.prog 70 #[.agg (SigLaw.cellsA SigLaw.zeroG)] w fun e w' => ∃ n : Int, e = .returned (.tuple #[.int .i64 n, .int .i64 4]) ∧ Below w.heap.size w w' := by
  refine (SigLaw.next_is SigLaw.zeroG w SigLaw.zeroG_bb).mono ?_
  rintro e w' ⟨n, en, rfl, hb, ⟨-, hn⟩ | ⟨P, M, hr, ⟨-, k, -, -, -, hk, -⟩ | ⟨rfl, -, -⟩⟩⟩
  · exact absurd SigLaw.zeroG_good hn
  · have hP : P = 0 := by have := hr.p; simp [SigLaw.zeroG] at this; omega
    subst hP
    simp at hk
  · exact ⟨n, rfl, hb⟩
theorem ker_putSig {c : Nat → Value} {o : Nat} (ho : o + 18 ≤ 655) (h : ∀ j, j < 18 → c (o + j) = .int .i64 0) : putA (kerA c) o (SigLaw.cellsA SigLaw.zeroG).toList = kerA c := by
  apply Array.ext_getElem?
  intro j
  have hl : (SigLaw.cellsA SigLaw.zeroG).toList.length = 18 := rfl
  rw [putA_get (by rw [hl, kerA_size]; omega), hl]
  by_cases hr : o ≤ j ∧ j < o + 18
  · rw [if_pos hr, ← sig_cellsP ho h]
    simp only [Array.getElem?_toList]
    rw [Array.getElem?_extract, if_pos (by rw [kerA_size]; omega)]
    congr 1
    omega
  · rw [if_neg hr]
section
variable {w0 w w1 : World} {k : KC} {s : KSt} {q : Nat} {X : Array Value}
/-- the kernel's row written anew as it was -/
theorem KT.same (h : KT w k s) : KT (w.setRow k.K (kerA s.c)) k s := by
  have u : Upd (fun j => j = k.K) w (w.setRow k.K (kerA s.c)) := Upd.setRow _ _ rfl
  have hr : KR (w.setRow k.K (kerA s.c)) k.K s.c := Row.setRow h.kr _
  generalize w.setRow k.K (kerA s.c) = w' at *
  have := h.cells (c' := s.c) (cw' := s.cw) (tag' := s.tag) hr u (fun _ _ => rfl) (fun _ _ => rfl) (fun j hj => h.tz j (Nat.le_trans u.size hj)) (fun p b hb => by
    obtain ⟨h1, h2, h3, h4⟩ := h.cw p b hb
    have hbK : b ≠ k.K := fun e => by rw [e, h.tK] at h4; exact absurd h4 (by decide)
    exact ⟨h1, (u.cell h3 hbK).trans h2, Nat.lt_of_lt_of_le h3 u.size, h4⟩)
  cases s
  exact this
attribute [local go_sem ↓] ld_sig st_sig
set_option maxRecDepth 100000 in
set_option maxHeartbeats 1000000 in
theorem sendP_is (h : KT w k s) (ha : Awake s q) : Calls Tryz.prog 26 #[.pointer (some ⟨k.K, 0, none⟩), .int .i64 q, .int .i64 7] w fun e w' => e = .returned (.tuple #[]) ∧ KT w' k s ∧ Upd (fun j => j = k.K) w w' := by
  have HL := Lib.hid (livingP_is h ha.p1 ha.p16 ha.lv)
  have l1 := h.ldsig ha.p16 ha.sg
  have HP := Lib.hid (ker_putSig (c := s.c) (o := 8 + q * 38 + 19) (by have := ha.p16; omega) ha.sg)
  have HS := Lib.hid (SigLaw.send7_is w)
  have HN := Lib.hid next0_is
  have HST := Lib.hid (fun (w : World) => st0_new w (T := 66) (c := #[.int .i64 0, .int .i64 0, .int .i64 0, .int .i64 0, .int .i64 0, .int .i64 0, .int .i64 0, .int .i64 0, .int .i64 0, .int .i64 0, .int .i64 0, .int .i64 0, .int .i64 0, .int .i64 0, .int .i64 0, .int .i64 0, .int .i64 0, .int .i64 0]) (cs := SigLaw.cellsA SigLaw.zeroG) rfl (by kernel_rfl) (SigLaw.cellsA_one SigLaw.zeroG))
  have HLN := Lib.hid (fun (w : World) => (row_new w 66 (SigLaw.cellsA SigLaw.zeroG)).ld0 (d := _) Tryz.underlying66 rfl (by kernel_rfl))
  have i0 : (q : Int) < 17 := by have := ha.p16; omega
  have HH := Lib.hid h
  have HA := Lib.hid ha
  clear h ha
  have hz1 : (SigLaw.cellsA SigLaw.zeroG).size = 18 := rfl
  have hz2 := SigLaw.cellsA_one SigLaw.zeroG
  have HSK := Lib.hid (fun (wx : World) (hx : KT wx k s) => Row.st hx.kr (o := 8 + q * 38 + 19) (U := 66) (cs := SigLaw.cellsA SigLaw.zeroG) (by rw [kerA_size, hz1]; have := HA.out.p16; omega) (by kernel_rfl) hz2)
  have HLK := Lib.hid (fun (wx : World) (hx : KT wx k s) => hx.ldsig HA.out.p16 HA.out.sg)
  rw [HP.out] at HSK
  clear hz1 hz2 HP
  generalize SigLaw.cellsA SigLaw.zeroG = ZG at *
  go_enter Tryz.func26, Tryz.ntmps26
  go_upto_region 5 with (first | (go_at_call 13; refine HL.out.mono ?_; rintro e1 w1 ⟨rfl, rfl⟩) | (go_at_call 69; refine HS.out.mono ?_; rintro e2 w2 ⟨rfl, hb2⟩; have hst := HST.out w2; have hln := HLN.out w2; have HK2 := Lib.hid ((HH.out.keep hb2).keep (Go.Joins.below_alloc1 w2 (.cells ZG 66))); have hsk := HSK.out _ HK2.out; have HB2 := Lib.hid (hb2.trans ((Go.Joins.below_alloc1 w2 (.cells ZG 66)).mono hb2.size)); clear hb2))
  have HK3 := Lib.hid HK2.out.same
  have HU3 : Hid (Upd (fun j => j = k.K) w ((w2.alloc (.cells ZG 66)).setRow k.K (kerA s.c))) := Lib.hid ((Upd.below HB2.out).trans (Upd.setRow _ (kerA s.c) rfl))
  clear hst hln hsk HB2 HK2
  generalize (w2.alloc (.cells ZG 66)).setRow k.K (kerA s.c) = w3 at *
  have l3 := HLK.out w3 HK3.out
  have HN3 := Lib.hid (HN.out w3)
  clear HN l1 HS HST HLN HSK HLK HL
  go_wp2_with (go_at_call 70; refine HN3.out.mono ?_; rintro e4 w4 ⟨n, rfl, hb4⟩; have HK4 := Lib.hid (HK3.out.keep hb4); have HU4 := Lib.hid (HU3.out.trans (Upd.below hb4)); clear hb4)
  (try simp only [Exit.inBlock, Exit.then]); first | (refine bodyPost_ret (results_none rfl _ _ _) rfl ?_) | (refine bodyPost_end (results_none rfl _ _ _) rfl ?_)
  exact ⟨rfl, HK4.out, HU4.out⟩
end
end Go.Proofs.YtafflkemnniegaaGreatDoor
namespace Go.Proofs.YtafflkemnniegaaGreatDoor
open Go.RowKit
set_option linter.unusedVariables false
set_option linter.unusedSimpArgs false
section
variable {w w' : World} {R cap : Nat} {ad : Option Addr} {cpus ticks pin : Int} {l : List Tk}
/-- who runs on a processor: 0 is nobody -/
def onT (l : List Tk) (c : Int) : Int := match onG l c with
  | none => 0
  | some i => match l[i]? with
    | none => 0
    | some x => x.t
theorem onG_some {c : Int} {i : Nat} (h : onG l c = some i) : ∃ x, l[i]? = some x ∧ x.cpu = c := by
  unfold onG at h
  rw [List.findIdx?_eq_some_iff_getElem] at h
  obtain ⟨hi, e, _⟩ := h
  exact ⟨l[i], List.getElem?_eq_getElem hi, by simpa using e⟩
set_option maxRecDepth 100000 in
set_option maxHeartbeats 400000 in
theorem pick_yes {m i : Nat} {x : Tk} (h : RunG w R ad cap m ticks pin l) {c : Nat} (hc : c < m) (ho : onG l c = some i) (hx : l[i]? = some x) : Calls Tryz.prog 22 #[.pointer (some ⟨R, 0, none⟩), .int .i64 c] w fun e w' => e = .returned (.tuple #[.int .i64 x.t, .int .i64 0]) ∧ w = w' := by
  have c0 := h.c0
  have j1 : ¬ (c : Int) < 0 := by omega
  have j2 : (c : Int) < m := by omega
  obtain ⟨T, C, rfl, hr⟩ := h.rows (by have := (List.getElem?_eq_some_iff.1 hx).1; omega)
  have HO := Lib.hid (onG_is h c)
  rw [ho, ptrG_some] at HO
  have t0 := (hr.cell (i * 15)).trans (hr.at hx).c0
  clear h ho hr hx
  go_enter Tryz.func22, Tryz.ntmps22
  go_wp2_with (go_at_call 55; refine HO.out.mono ?_; rintro e1 w1 ⟨rfl, rfl⟩)
  go_ret2
  exact ⟨rfl, rfl⟩
set_option maxRecDepth 100000 in
set_option maxHeartbeats 400000 in
theorem pick_no {m : Nat} (h : RunG w R ad cap m ticks pin l) {c : Nat} (hc : c < m) (ho : onG l c = none) : Calls Tryz.prog 22 #[.pointer (some ⟨R, 0, none⟩), .int .i64 c] w fun e w' => e = .returned (.tuple #[.int .i64 0, .int .i64 4]) ∧ w = w' := by
  have c0 := h.c0
  have j1 : ¬ (c : Int) < 0 := by omega
  have j2 : (c : Int) < m := by omega
  have HO := Lib.hid (onG_is h c)
  rw [ho, ptrG_none] at HO
  clear h ho
  go_enter Tryz.func22, Tryz.ntmps22
  go_wp2_with (go_at_call 55; refine HO.out.mono ?_; rintro e1 w1 ⟨rfl, rfl⟩)
  go_ret2
  exact ⟨rfl, rfl⟩
set_option maxRecDepth 100000 in
theorem cost10_is (w : World) : Calls Tryz.prog 56 #[.int .i64 10] w fun e w' => e = .returned (.tuple #[.int .i64 104857, .int .i64 0]) ∧ w = w' := by
  go_enter Tryz.func56, Tryz.ntmps56
  go_wp2_with fail
  go_ret2
  exact ⟨rfl, rfl⟩
set_option maxRecDepth 100000 in
set_option maxHeartbeats 400000 in
theorem time_is {m : Nat} (h : RunG w R ad cap m ticks pin l) (h1 : 1 ≤ m) (h4 : m ≤ 4) : Calls Tryz.prog 57 #[.pointer (some ⟨R, 0, none⟩)] w fun e w' => ∃ q, e = .returned (.int .i64 q) ∧ Below w.heap.size w w' := by
  have c0 := h.c0
  have c1 := h.c1
  clear h
  have : m = 1 ∨ m = 2 ∨ m = 3 ∨ m = 4 := by omega
  rcases this with rfl | rfl | rfl | rfl
  all_goals
    clear h1 h4
    go_enter Tryz.func57, Tryz.ntmps57
    go_upto_region 1 with fail
    go_quiet (fail)
    generalize hnq : w.drewN _ = w9 at *
    go_wp2_with fail
    go_ret
    exact ⟨_, rfl, by rw [← hnq]; exact below_drewN (Below.refl _ _) _⟩
/-- the tasks behind a tick of a processor -/
def stepAt (l : List Tk) (i : Nat) : List Tk := match l[i]? with
  | none => l
  | some x => l.set i { x with v := x.v + 104857, cpu := -1 }
def tickL (l : List Tk) (c : Int) (m : Nat) : List Tk := match onG l c with
  | none => fillG l m
  | some i => fillG (stepAt l i) m
theorem onG_setV {c : Int} {i : Nat} {x : Tk} (h : onG l c = some i) (hx : l[i]? = some x) (v : Int) : onG (l.set i { x with v := v }) c = some i := by
  unfold onG at h ⊢
  rw [List.findIdx?_eq_some_iff_getElem] at h ⊢
  obtain ⟨hi, e, hj⟩ := h
  obtain ⟨hi2, e2⟩ := List.getElem?_eq_some_iff.1 hx
  refine ⟨by simpa using hi, ?_, fun j hj2 => ?_⟩
  · simp only [List.getElem_set_self]
    rw [← e2]
    exact e
  · rw [List.getElem_set_ne (by omega)]
    exact hj j hj2
set_option maxRecDepth 100000 in
set_option maxHeartbeats 1000000 in
theorem tick_no {m : Nat} (h : RunG w R ad cap m ticks (onePin m) l) {c : Nat} (hc : c < m) (hm : m ≤ 4) (t0 : 0 ≤ ticks) (t1 : ticks < 1000000) (ho : onG l c = none) : Calls Tryz.prog 21 #[.pointer (some ⟨R, 0, none⟩), .int .i64 c] w fun e w' => e = .returned (.int .i64 0) ∧ RunG w' R ad cap m (ticks + 1) (onePin m) (fillG l m) ∧ Upd (rS R ad) w w' := by
  have j1 : ¬ (c : Int) < 0 := by omega
  have j2 : (c : Int) < m := by omega
  have c0 := h.c0
  have c1 := h.c1
  have f1 := h.fz 1
  have hmx := h.mx
  have HH1 := Lib.hid (h.setTicks (ticks + 1))
  have HU1 : Hid (Upd (rS R ad) w (w.setCell ⟨R, 1, none⟩ (.int .i64 (ticks + 1)))) := Lib.hid (Upd.set w _ (.inl rfl))
  clear h
  obtain ⟨w1, hw1⟩ : ∃ w1, w1 = w.setCell ⟨R, 1, none⟩ (.int .i64 (ticks + 1)) := ⟨_, rfl⟩
  rw [← hw1] at HH1 HU1
  have HON := Lib.hid (onG_is HH1.out c)
  rw [ho, ptrG_none] at HON
  have HTI := Lib.hid (time_is HH1.out (by omega) hm)
  have HO := Lib.hid ho
  have HM := Lib.hid hm
  clear ho
  have HW1 := Lib.hid hw1
  clear hw1
  go_enter Tryz.func21, Tryz.ntmps21
  go_upto_region 4 with fail
  rw [← HW1.out]
  clear HW1 c0 c1 f1 t0 t1
  go_upto_region 15 with (first | (go_at_call 55; refine HON.out.mono ?_; rintro e1 w2 ⟨rfl, rfl⟩) | (go_at_call 57; refine HTI.out.mono ?_; rintro e2 w2 ⟨q, rfl, hb2⟩; have HH2 := Lib.hid (HH1.out.keep hb2); have HU2 := Lib.hid (HU1.out.trans (Upd.below hb2)); clear hb2))
  have c3 := HH2.out.c3
  obtain ⟨n, hn⟩ : ∃ n, n = l.length := ⟨_, rfl⟩
  rw [← hn] at c3 hmx
  have HN := Lib.hid hn
  clear hn
  have HON2 := Lib.hid (onG_is HH2.out c)
  rw [HO.out, ptrG_none] at HON2
  have HF := Lib.hid (fillG_is HH2.out (onePin_ok (by have := HM.out; omega)) (by have := HM.out; omega))
  go_wp2_with fail
  go_loop [85] (fun i => ∃ k : Nat, k ≤ n ∧ i = .int .i64 k) (fun i => n - (intOf i).toNat)
  case atStart => exact ⟨0, Nat.zero_le _, rfl⟩
  case round =>
    obtain ⟨k, hk0, rfl⟩ := hrel
    by_cases hk : k < n
    · have jk : (k : Int) < n := by omega
      obtain ⟨T', C, hT', hr⟩ := HH2.out.rows (by have := HN.out; omega)
      subst hT'
      obtain ⟨y, hy⟩ : ∃ y, l[k]? = some y := ⟨l[k]'(by have := HN.out; omega), List.getElem?_eq_getElem _⟩
      have t13 := (hr.cell (k * 15 + 13)).trans (hr.at hy).c13
      clear hr hy
      go_wp2_with fail
      go_round
      case rel => exact ⟨k + 1, by omega, by go_num⟩
      case measure => simp [intOf]; omega
    · obtain rfl : k = n := by omega
      go_wp2_with (first | (go_at_call 55; refine HON2.out.mono ?_; rintro e3 w3 ⟨rfl, rfl⟩) | (go_at_call 59; refine HF.out.mono ?_; rintro e4 w4 ⟨rfl, hr4, hu4⟩; have HR4 := Lib.hid hr4; have HU4 := Lib.hid (HU2.out.trans hu4); clear hr4 hu4))
      go_ret
      exact ⟨rfl, HR4.out, HU4.out⟩
set_option maxRecDepth 100000 in
set_option maxHeartbeats 1000000 in
theorem tick_yes {m T i : Nat} {x : Tk} (h : RunG w R (some ⟨T, 0, none⟩) cap m ticks (onePin m) l) {c : Nat} (hc : c < m) (hm : m ≤ 4) (t0 : 0 ≤ ticks) (t1 : ticks < 1000000) (ho : onG l c = some i) (hx : l[i]? = some x) (v0 : 0 ≤ x.v) (v1 : x.v < 1000000000000) : Calls Tryz.prog 21 #[.pointer (some ⟨R, 0, none⟩), .int .i64 c] w fun e w' => e = .returned (.int .i64 0) ∧ RunG w' R (some ⟨T, 0, none⟩) cap m (ticks + 1) (onePin m) (fillG (stepAt l i) m) ∧ Upd (rS R (some ⟨T, 0, none⟩)) w w' := by
  have j1 : ¬ (c : Int) < 0 := by omega
  have j2 : (c : Int) < m := by omega
  have c0 := h.c0
  have c1 := h.c1
  have f1 := h.fz 1
  have hmx := h.mx
  have hil := (List.getElem?_eq_some_iff.1 hx).1
  obtain ⟨T', C, e, hr⟩ := h.rows (by omega)
  injection e with e; injection e with e; subst e
  have ne1 := hr.ne
  have ne2 : R ≠ T := fun e => ne1 e.symm
  have a1 := (hr.cell (i * 15 + 1)).trans (hr.at hx).c1
  have a2 := (hr.cell (i * 15 + 2)).trans (hr.at hx).c2
  have a9 := (hr.cell (i * 15 + 9)).trans (hr.at hx).c9
  have f9 := hr.row.fz (i * 15 + 9)
  have HCO := Lib.hid (cost10_is (w.setCell ⟨R, 1, none⟩ (.int .i64 (ticks + 1))))
  have HON := Lib.hid (onG_is (h.setTicks (ticks + 1)) c)
  rw [ho, ptrG_some] at HON
  have hx2 : (l.set i { x with v := x.v + 104857 })[i]? = some { x with v := x.v + 104857 } := by rw [List.getElem?_set]; simp [hil]
  have HH1 := Lib.hid ((h.setTicks (ticks + 1)).setV hx (x.v + 104857))
  have HU1 : Hid (Upd (rS R (some ⟨T, 0, none⟩)) w ((w.setCell ⟨R, 1, none⟩ (.int .i64 (ticks + 1))).setCell ⟨T, i * 15 + 9, none⟩ (.int .i64 (x.v + 104857)))) := Lib.hid ((Upd.set w _ (.inl rfl)).trans (Upd.set _ _ (.inr ⟨_, rfl, rfl⟩)))
  have HON0 := Lib.hid (onG_is HH1.out c)
  rw [onG_setV ho hx, ptrG_some] at HON0
  have HTI := Lib.hid (time_is HH1.out (by omega) hm)
  have HX2 := Lib.hid hx2
  have HM := Lib.hid hm
  have HSA : Hid (stepAt l i = (l.set i { x with v := x.v + 104857 }).set i { x with v := x.v + 104857, cpu := -1 }) := Lib.hid (by unfold stepAt; rw [hx]; simp)
  have HOS := Lib.hid (onG_setV ho hx (x.v + 104857))
  have HLN : Hid ((l.set i { x with v := x.v + 104857 }).length = l.length) := Lib.hid (by simp)
  clear h hr ho hx hx2 hil
  go_enter Tryz.func21, Tryz.ntmps21
  go_upto_region 14 with (first | (go_at_call 55; refine HON.out.mono ?_; rintro e1 w2 ⟨rfl, rfl⟩) | (go_at_call 56; refine HCO.out.mono ?_; rintro e1 w2 ⟨rfl, rfl⟩))
  generalize (w.setCell ⟨R, 1, none⟩ (.int .i64 (ticks + 1))).setCell ⟨T, i * 15 + 9, none⟩ (.int .i64 (x.v + 104857)) = w1 at *
  clear c0 c1 f1 t0 t1 a1 a2 a9 f9 v0 v1 HON HCO
  generalize l.set i { x with v := x.v + 104857 } = l1 at *
  go_upto_region 15 with (go_at_call 57; refine HTI.out.mono ?_; rintro e2 w2 ⟨q, rfl, hb2⟩; have HH2 := Lib.hid (HH1.out.keep hb2); have HU2 := Lib.hid (HU1.out.trans (Upd.below hb2)); clear hb2)
  have c3 := HH2.out.c3
  obtain ⟨n, hn⟩ : ∃ n, n = l1.length := ⟨_, rfl⟩
  rw [← hn] at c3
  have hmx2 : (n : Int) ≤ 1000 := by rw [hn, HLN.out]; exact hmx
  clear hmx
  have HN := Lib.hid hn
  clear hn
  have HON2 := Lib.hid (onG_is HH2.out c)
  rw [HOS.out, ptrG_some] at HON2
  have HWT := Lib.hid (waitG_is HH2.out HX2.out)
  go_wp2_with fail
  go_loop [85] (fun i => ∃ k : Nat, k ≤ n ∧ i = .int .i64 k) (fun i => n - (intOf i).toNat)
  case atStart => exact ⟨0, Nat.zero_le _, rfl⟩
  case round =>
    obtain ⟨k, hk0, rfl⟩ := hrel
    by_cases hk : k < n
    · have jk : (k : Int) < n := by omega
      obtain ⟨T', C, hT', hr⟩ := HH2.out.rows (by have := HN.out; omega)
      injection hT' with hT'; injection hT' with hT'; subst hT'
      obtain ⟨y, hy⟩ : ∃ y, l1[k]? = some y := ⟨l1[k]'(by have := HN.out; omega), List.getElem?_eq_getElem _⟩
      have t13 := (hr.cell (k * 15 + 13)).trans (hr.at hy).c13
      clear hr hy
      go_wp2_with fail
      go_round
      case rel => exact ⟨k + 1, by omega, by go_num⟩
      case measure => simp [intOf]; omega
    · obtain rfl : k = n := by omega
      go_wp2_with (first | (go_at_call 55; refine HON2.out.mono ?_; rintro e3 w3 ⟨rfl, rfl⟩) | (go_at_call 58; refine HWT.out.mono ?_; rintro e3 w3 ⟨rfl, hr3, hu3⟩; have HU3 := Lib.hid (HU2.out.trans hu3); have HF := Lib.hid (fillG_is hr3 (onePin_ok (by have := HM.out; omega)) (by have := HM.out; omega)); clear hr3 hu3) | (go_at_call 59; refine HF.out.mono ?_; rintro e4 w4 ⟨rfl, hr4, hu4⟩; have HR4 := Lib.hid hr4; have HU4 := Lib.hid (HU3.out.trans hu4); clear hr4 hu4))
      go_ret
      exact ⟨rfl, by rw [HSA.out]; exact HR4.out, HU4.out⟩
/-- a tick of a processor -/
theorem tickG_is {m : Nat} (h : RunG w R ad cap m ticks (onePin m) l) {c : Nat} (hc : c < m) (hm : m ≤ 4) (t0 : 0 ≤ ticks) (t1 : ticks < 1000000) (hv : ∀ (i : Nat) (x : Tk), l[i]? = some x → 0 ≤ x.v ∧ x.v < 1000000000000) : Calls Tryz.prog 21 #[.pointer (some ⟨R, 0, none⟩), .int .i64 c] w fun e w' => e = .returned (.int .i64 0) ∧ RunG w' R ad cap m (ticks + 1) (onePin m) (tickL l c m) ∧ Upd (rS R ad) w w' := by
  cases ho : onG l c with
  | none =>
    have := tick_no h hc hm t0 t1 ho
    unfold tickL
    rw [ho]
    exact this
  | some i =>
    obtain ⟨x, hx, -⟩ := onG_some ho
    obtain ⟨T, C, rfl, -⟩ := h.rows (by have := (List.getElem?_eq_some_iff.1 hx).1; omega)
    have := tick_yes h hc hm t0 t1 ho hx (hv i x hx).1 (hv i x hx).2
    unfold tickL
    rw [ho]
    exact this
end
end Go.Proofs.YtafflkemnniegaaGreatDoor
namespace Go.Proofs.YtafflkemnniegaaGreatDoor
open Go.RowKit
set_option linter.unusedVariables false
set_option linter.unusedSimpArgs false
/-- the tasks of two runs differ in where they run alone -/
def SameV (l l' : List Tk) : Prop := l'.length = l.length ∧ ∀ (i : Nat) (x : Tk), l'[i]? = some x → ∃ y, l[i]? = some y ∧ y.t = x.t ∧ y.v = x.v ∧ y.rd = x.rd
theorem SameV.refl (l : List Tk) : SameV l l := ⟨rfl, fun i x h => ⟨x, h, rfl, rfl, rfl⟩⟩
theorem SameV.trans {a b c : List Tk} (h : SameV a b) (k : SameV b c) : SameV a c := ⟨k.1.trans h.1, fun i x hx => by
  obtain ⟨y, hy, e1, e2, e3⟩ := k.2 i x hx
  obtain ⟨z, hz, f1, f2, f3⟩ := h.2 i y hy
  exact ⟨z, hz, f1.trans e1, f2.trans e2, f3.trans e3⟩⟩
theorem SameV.set {l : List Tk} {i : Nat} {x : Tk} (hx : l[i]? = some x) (c : Int) : SameV l (l.set i { x with cpu := c }) := ⟨by simp, fun j y hy => by
  rw [List.getElem?_set] at hy
  split at hy
  · rename_i e
    subst e
    split at hy
    · injection hy with hy
      subst hy
      exact ⟨x, hx, rfl, rfl, rfl⟩
    · cases hy
  · exact ⟨y, hy, rfl, rfl, rfl⟩⟩
theorem fill1_same (l : List Tk) (c : Int) : SameV l (fill1 l c) := by
  cases h1 : onG l c with
  | some i => rw [fill1_busy h1]; exact SameV.refl _
  | none =>
    cases h2 : bestG l l.length with
    | none => rw [fill1_none h1 h2]; exact SameV.refl _
    | some b =>
      have hb := (bestG_lt l _ b h2).2
      rw [fill1_some h1 h2 (List.getElem?_eq_getElem hb)]
      exact SameV.set (List.getElem?_eq_getElem hb) c
theorem fillG_same (l : List Tk) : ∀ m, SameV l (fillG l m)
  | 0 => SameV.refl _
  | m + 1 => (fillG_same l m).trans (fill1_same _ _)
/-- virtual times lie between 0 and b -/
def VOk (b : Int) (l : List Tk) : Prop := ∀ (i : Nat) (x : Tk), l[i]? = some x → 0 ≤ x.v ∧ x.v ≤ b
theorem VOk.same {b : Int} {l l' : List Tk} (h : VOk b l) (hs : SameV l l') : VOk b l' := fun i x hx => by
  obtain ⟨y, hy, -, e, -⟩ := hs.2 i x hx
  rw [← e]
  exact h i y hy
theorem VOk.mono {b b' : Int} {l : List Tk} (h : VOk b l) (hb : b ≤ b') : VOk b' l := fun i x hx => ⟨(h i x hx).1, by have := (h i x hx).2; omega⟩
theorem VOk.tick {b : Int} {l : List Tk} (h : VOk b l) (c : Int) (m : Nat) : VOk (b + 104857) (tickL l c m) := by
  unfold tickL
  cases ho : onG l c with
  | none => exact (h.mono (by omega)).same (fillG_same l m)
  | some i =>
    refine VOk.same ?_ (fillG_same _ m)
    obtain ⟨x, hx, -⟩ := onG_some ho
    unfold stepAt
    rw [hx]
    intro j y hy
    have hy : (l.set i { x with v := x.v + 104857, cpu := -1 })[j]? = some y := hy
    rw [List.getElem?_set] at hy
    split at hy
    · split at hy
      · injection hy with hy
        subst hy
        have := h i x hx
        exact ⟨by show 0 ≤ x.v + 104857; omega, by show x.v + 104857 ≤ b + 104857; omega⟩
      · cases hy
    · have := h j y hy
      omega
/-- all processors tick, from the first on -/
def tickAll (l : List Tk) (m : Nat) : Nat → List Tk
  | 0 => l
  | c + 1 => tickL (tickAll l m c) c m
theorem VOk.all {b : Int} {l : List Tk} (h : VOk b l) (m : Nat) : ∀ c : Nat, VOk (b + c * 104857) (tickAll l m c)
  | 0 => h.mono (by omega)
  | c + 1 => ((h.all m c).tick c m).mono (by push_cast; omega)
theorem tickL_len (l : List Tk) (c : Int) (m : Nat) : (tickL l c m).length = l.length := by
  unfold tickL
  cases ho : onG l c with
  | none => exact fillG_len l m
  | some i =>
    show (fillG (stepAt l i) m).length = l.length
    rw [fillG_len]
    unfold stepAt
    cases l[i]? <;> simp
end Go.Proofs.YtafflkemnniegaaGreatDoor
