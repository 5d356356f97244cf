/- The walk of space's Drop, at a space whose pages nobody shares. The walk of space's Fork, and of Free's parts. -/
import Derived.Test.YtnbhohaphmilmaaGreatDoorSpE
import Derived.Maps.RangeWalk
namespace Go.Proofs.YtnbhohaphmilmaaGreatDoor
open Go.RowKit Go.Maps
set_option linter.unusedVariables false
set_option linter.unusedSimpArgs false
theorem redE_inv' {v : Value} {y : DataW Unit × List MemPlace} (h : redE v = some y) : ∃ c, v = encE c := by
  unfold redE at h
  split at h
  · rename_i h'; exact h'
  · cases h
open Classical in
/-- is a page's entry one that was met? -/
noncomputable def met (f : Int → Option (Nat × Int)) (left : Lit → Bool) (g : Nat) : Bool := decide (∃ k r, f k = some (g, r) ∧ left (.int .i64 k) = false)
theorem met_iff {f : Int → Option (Nat × Int)} {left : Lit → Bool} {g : Nat} : met f left g = true ↔ ∃ k r, f k = some (g, r) ∧ left (.int .i64 k) = false := by
  unfold met
  exact @decide_eq_true_iff _ (Classical.propDecidable _)
theorem same_int (a b : Int) : (Lit.int .i64 a).sameKey (.int .i64 b) = decide (a = b) := by simp [Lit.sameKey]
/-- each entry names a page of its own -/
def Lone (f : Int → Option (Nat × Int)) : Prop := ∀ k k' g r r', f k = some (g, r) → f k' = some (g, r') → k = k'
theorem met_next {f : Int → Option (Nat × Int)} {left : Lit → Bool} (ha : Lone f) {x : Int} {g : Nat} {r : Int} (hx : f x = some (g, r)) (hl : left (.int .i64 x) = true) (q : Nat) : met f (fun z => left z && !z.sameKey (.int .i64 x)) q = (met f left q || decide (q = g)) := by
  by_cases e : q = g
  · subst e
    rw [decide_eq_true rfl, Bool.or_true]
    exact met_iff.2 ⟨x, r, hx, by simp [same_int]⟩
  · rw [decide_eq_false e, Bool.or_false]
    cases hm : met f left q
    · cases hm' : met f (fun z => left z && !z.sameKey (.int .i64 x)) q
      · rfl
      · obtain ⟨k, r', hk, hk2⟩ := met_iff.1 hm'
        by_cases e2 : k = x
        · subst e2; rw [hx] at hk; injection hk with hk; injection hk with hk; exact absurd hk.symm e
        · have h3 : left (.int .i64 k) = false := by simpa [same_int, e2] using hk2
          rw [met_iff.2 ⟨k, r', hk, h3⟩] at hm; cases hm
    · obtain ⟨k, r', hk, hk2⟩ := met_iff.1 hm
      exact met_iff.2 ⟨k, r', hk, by simp [hk2]⟩
/-- the pages that are left -/
noncomputable def kept (m : MS) (f : Int → Option (Nat × Int)) (left : Lit → Bool) : List Nat := m.pl.filter fun g => !met f left g
/-- the memory while a space is dropped: the pages that were met are gone -/
structure Drp (w : World) (m : MS) (M so : Nat) (fr sl : Int) (f : Int → Option (Nat × Int)) (left : Lit → Bool) (wr : World) (m' : MS) : Prop where
  mem : MemG wr M so fr sl m'
  pl : m'.pl = kept m f left
  pv : m'.pv.ownBlock = m.pv.ownBlock
  S : m'.S = m.S
  nS : m'.nS = m.nS
  F : m'.F = m.F
  nF : m'.nF = m.nF
  d : m'.d = m.d
  h : m'.h = m.h
  u : ∀ g, g ∈ m'.pl → m'.u g = m.u g
  hu : Upd (mB M so m) w wr
  le : ∀ k, left (.int .i64 k) = true → (f k).isSome = true
section
variable {w w' wr : World} {M so g b : Nat} {fr sl : Int} {m m' : MS} {f : Int → Option (Nat × Int)} {left : Lit → Bool}
theorem Drp.keep (h : Drp w m M so fr sl f left wr m') (hb : Below wr.heap.size wr w') : Drp w m M so fr sl f left w' m' := ⟨h.mem.keep hb, h.pl, h.pv, h.S, h.nS, h.F, h.nF, h.d, h.h, h.u, h.hu.trans (Upd.below hb), h.le⟩
theorem erase_filter : ∀ {l : List Nat}, l.Nodup → ∀ {i g : Nat}, l[i]? = some g → l.eraseIdx i = l.filter (fun x => !decide (x = g))
  | [], _, i, g, h => by simp at h
  | a :: t, hn, 0, g, h => by
    simp at h
    subst h
    rw [List.nodup_cons] at hn
    rw [List.filter_cons_of_neg (by simp), List.filter_eq_self.2 (fun x hx => by
      have : x ≠ a := fun e => hn.1 (e ▸ hx)
      simpa using this)]
    rfl
  | a :: t, hn, i + 1, g, h => by
    rw [List.nodup_cons] at hn
    have h' : t[i]? = some g := by simpa using h
    have : a ≠ g := fun e => hn.1 (e ▸ List.mem_of_getElem? h')
    rw [List.filter_cons_of_pos (by simpa using this), List.eraseIdx_cons_succ, erase_filter hn.2 h']
theorem filter_erase {l : List Nat} (hnd : l.Nodup) {p : Nat → Bool} {i g : Nat} (hi : (l.filter p)[i]? = some g) : (l.filter p).eraseIdx i = l.filter (fun x => p x && !decide (x = g)) := by
  rw [erase_filter (hnd.sublist List.filter_sublist) hi, List.filter_filter]
  congr 1
  funext x
  exact Bool.and_comm _ _
theorem ranges_upd {S : Nat → Prop} {r n : Nat} {D : DataW Unit} {cnt : Nat} (h : w.ranges Tryz.prog 3 redE b r n D left cnt) (hu : Upd S w w') (hb : ¬ S b) (hr : ¬ S r) : w'.ranges Tryz.prog 3 redE b r n D left cnt := by
  have lt : ∀ {k o}, w.heap[k]? = some o → k < w.heap.size := fun h => (Array.getElem?_eq_some_iff.1 h).1
  obtain ⟨es, c1, c2, a, c3, h1, F, h2, h3, h4, rest⟩ := h
  exact ⟨es, c1, c2, a, c3, (hu.block b (lt h1) hb).trans h1, F, h2, h3, (hu.block r (lt h4) hr).trans h4, rest⟩
theorem Drp.start (h : MemG w M so fr sl m) (hle : ∀ k, left (.int .i64 k) = (f k).isSome) : Drp w m M so fr sl f left w m := by
  refine ⟨h, ?_, rfl, rfl, rfl, rfl, rfl, rfl, rfl, fun _ _ => rfl, Upd.refl _ _, fun k hk => by rw [← hle]; exact hk⟩
  unfold kept
  rw [List.filter_eq_self.2 (fun x _ => ?_)]
  cases hm : met f left x
  · rfl
  · obtain ⟨k, r, hk, hk2⟩ := met_iff.1 hm
    rw [hle, hk] at hk2
    cases hk2
theorem Drp.at (h : Drp w m M so fr sl f left wr m') (ha : Lone f) (hpl : ∀ k g r, f k = some (g, r) → g ∈ m.pl) {x : Int} {g : Nat} {r : Int} (hx : f x = some (g, r)) (hl : left (.int .i64 x) = true) : ∃ i : Nat, m'.pl[i]? = some g := by
  have hg : g ∈ m'.pl := by
    rw [h.pl]
    refine List.mem_filter.2 ⟨hpl x g r hx, ?_⟩
    cases hm : met f left g
    · rfl
    · obtain ⟨k, r', hk, hk2⟩ := met_iff.1 hm
      rw [ha k x g r' r hk hx, hl] at hk2
      cases hk2
  obtain ⟨i, hi, e⟩ := List.getElem_of_mem hg
  exact ⟨i, by rw [List.getElem?_eq_getElem hi, e]⟩
theorem Drp.next (h : Drp w m M so fr sl f left wr m') (h0 : MemG w M so fr sl m) (ha : Lone f) {x : Int} {g i : Nat} {r : Int} (hx : f x = some (g, r)) (hl : left (.int .i64 x) = true) (hi : m'.pl[i]? = some g) {w1 : World} {v : Value} (hv : v.ownBlock = m'.pv.ownBlock) (hm : MemG w1 M so fr sl (m'.less v g i)) (hu : Upd (fun k => k = M ∨ k = g ∨ m'.pv.ownBlock = some k) wr w1) : Drp w m M so fr sl f (fun z => left z && !z.sameKey (.int .i64 x)) w1 (m'.less v g i) := by
  refine ⟨hm, ?_, hv.trans h.pv, h.S, h.nS, h.F, h.nF, h.d, h.h, fun q hq => ?_, h.hu.trans' hu (fun k hk e => ?_), fun k hk => h.le k (by
    have hk : (left (.int .i64 k) && !(Lit.int .i64 k).sameKey (.int .i64 x)) = true := hk
    exact (Bool.and_eq_true _ _ ▸ hk).1)⟩
  · show m'.pl.eraseIdx i = _
    have hi' := hi
    rw [h.pl] at hi'
    rw [h.pl]
    unfold kept at hi' ⊢
    rw [filter_erase h0.nd hi']
    congr 1
    funext q
    rw [met_next ha hx hl q, Bool.not_or]
  · have hq' : q ∈ m'.pl := List.mem_of_mem_eraseIdx hq
    have hne : q ≠ g := fun e => by
      subst e
      have hq2 : q ∈ m'.pl.eraseIdx i := hq
      rw [erase_filter h.mem.nd hi] at hq2
      have := (List.mem_filter.1 hq2).2
      simp at this
    show fup m'.u g 0 q = m.u q
    rw [fup_off _ _ hne]
    exact h.u q hq'
  · rcases e with e | e | e
    · exact .inl e
    · subst e
      have := List.mem_of_getElem? hi
      rw [h.pl] at this
      exact .inr (.inr (.inr (.inr (List.mem_filter.1 this).1)))
    · exact .inr (.inr (.inl (by rw [← h.pv]; exact e)))
theorem Drp.done (h : Drp w m M so fr sl f left wr m') (hl : ∀ kl, left kl = false) (q : Nat) : q ∈ m'.pl ↔ q ∈ m.pl ∧ ¬ ∃ k r, f k = some (q, r) := by
  rw [h.pl]
  unfold kept
  rw [List.mem_filter]
  constructor
  · rintro ⟨h1, h2⟩
    refine ⟨h1, fun ⟨k, r, hk⟩ => ?_⟩
    rw [met_iff.2 ⟨k, r, hk, hl _⟩] at h2
    cases h2
  · rintro ⟨h1, h2⟩
    refine ⟨h1, ?_⟩
    cases hm : met f left q
    · rfl
    · obtain ⟨k, r, hk, _⟩ := met_iff.1 hm
      exact absurd ⟨k, r, hk⟩ h2
/-- the state behind a drop -/
def MS.dropped (m m' : MS) (s : Int) : MS := { m' with S := fun k => if k = s then none else m.S k }
theorem OMap.del {so n : Nat} {S : Int → Option Nat} (h : OMap w so n S) {s : Int} (hs : (Lit.int .i64 s).wf = true) (ty : TypeId) : ∃ w', (Builtin.delete_ #[131, 3] ty #[.map (some so), .int .i64 s]).run Tryz.prog w = .ok (.tuple #[]) w' ∧ OMap w' so n (fun k => if k = s then none else S k) ∧ w.grownBy w' (some so) := by
  obtain ⟨D, hD, hm, hf⟩ := h
  obtain ⟨w', hr, ho, ht⟩ := hD.drop keyed3 Tryz.underlying131 (keyOf_int_mk Tryz.underlying3 hs) ty
  refine ⟨w', hr, ⟨_, ho, hm.del _, fun j => ?_⟩, ht.grown⟩
  by_cases e : j = s
  · subst e
    rw [atKey_del_same]
    simp [datO]
  · rw [atKey_del_other (lit_ne e)]
    dsimp only
    rw [if_neg e]
    exact hf j
attribute [local go_sem ↓] bd_16
set_option maxRecDepth 100000 in
set_option maxHeartbeats 1000000 in
theorem dropG_is (h : MemG w M so fr sl m) {s : Int} (hs : m.S s = some b) (hwf : (Lit.int .i64 s).wf = true) (ha : Lone (m.F b)) (hpl : ∀ k g r, m.F b k = some (g, r) → g ∈ m.pl ∧ m.u g = 1) (hl : m.pl.length ≤ 100000) :
    Calls Tryz.prog 154 #[.pointer (some ⟨M, 0, none⟩), .int .i64 s] w fun e w' => e = .returned (.int .i64 0) ∧ ∃ m' left, (∀ kl, left kl = false) ∧ (∀ q, q ∈ m'.pl ↔ q ∈ m.pl ∧ ¬ ∃ k r, m.F b k = some (q, r)) ∧ MemG w' M so fr sl (m.dropped m' s) ∧ m'.pv.ownBlock = m.pv.ownBlock ∧ m'.pl = kept m (m.F b) left ∧ m'.nS = m.nS ∧ m'.F = m.F ∧ m'.nF = m.nF ∧ m'.d = m.d ∧ m'.h = m.h ∧ (∀ g, g ∈ m'.pl → m'.u g = m.u g) ∧ Upd (mB M so m) w w' := by
  have m4 := h.m4
  have l1 := h.om.look hwf
  rw [hs] at l1
  change _ = Result.ok (Value.map (some b)) w at l1
  have l2 := map_no_nil w b
  have HM := Lib.hid h
  have HW := Lib.hid (And.intro hs (And.intro hwf (And.intro ha (And.intro hpl hl))))
  obtain ⟨D, hD, hm, hf⟩ := h.im s b hs
  have HF := Lib.hid hf
  have hbl := hD.lt
  clear h hs hwf ha hpl hl hm
  go_enter Tryz.func154, Tryz.ntmps154
  go_wp2_with (first | (at_range; refine wpList_range_own _ rfl _ 210 rfl 3 222 keyed3 Tryz.underlying210 redE b _ D rfl hD ?_; intro w0 hrg0 hg0 hs0) | fail)
  go_frame
  have HD0 : Hid (Drp w m M so fr sl (m.F b) (has D) w0 m) := Lib.hid (by
    have h1 := Drp.start (w := w0) (left := has D) (f := m.F b) (HM.out.upd (S := fun _ => False) (Upd.grown0 hg0 (fun b e => by cases e)) (fun _ _ e => e)) (fun k => (hf k).2)
    exact ⟨h1.mem, h1.pl, h1.pv, h1.S, h1.nS, h1.F, h1.nF, h1.d, h1.h, h1.u, Upd.grown0 hg0 (fun b e => by cases e), h1.le⟩)
  clear hg0 hs0 m4 l1 hf hD
  go_loopw [6] (fun _ wr => ∃ left cnt m', wr.ranges Tryz.prog 3 redE b w.heap.size (m.nF b) D left cnt ∧ Hid (Drp w m M so fr sl (m.F b) left wr m')) (fun _ wr => wr.rangeLeft b w.heap.size)
  case atStart => exact ⟨_, _, _, hrg0, HD0⟩
  case round =>
    clear hrg0 HD0
    obtain ⟨left, cnt, m', hrg, HD⟩ := hrel
    go_wp2_with (first | (at_next; refine wpList_next_ranges (α := Int) (β := Option (Nat × Int)) _ rfl _ rfl 3 keyed3 redE (Value.int .i64) encE (fun key kl hk => by obtain ⟨x, rfl, _⟩ := keyOf_int_inv Tryz.underlying3 hk; exact ⟨x, rfl⟩) (fun v y hv => redE_inv' hv) b w.heap.size _ _ _ _ rfl hrg ?_ ?_) | fail)
    · intro hc0 hl0
      have HL := Lib.hid hl0
      have m4 := HD.out.mem.m4
      obtain ⟨DO, hDO, hmO, hfO⟩ := HD.out.mem.om
      have HFO := Lib.hid (And.intro hmO hfO)
      clear hc0 hl0 hrg hmO hfO
      have hkey : keyOf Tryz.prog 3 (.int .i64 s) = some (.int .i64 s) := keyOf_int_mk Tryz.underlying3 HW.out.2.1
      go_wp2_with (first | (at_delete; refine wpList_delete_own _ rfl _ _ 131 3 rfl _ keyed3 Tryz.underlying131 redO so _ DO rfl hDO _ _ rfl hkey ?_; intro w2 hown2 hturn2) | fail)
      have HO2 : Hid (OMap w2 so m'.nS (fun k => if k = s then none else m'.S k)) := Lib.hid ⟨_, hown2, HFO.out.1.del _, fun j => by
        by_cases e : j = s
        · subst e
          rw [atKey_del_same]
          simp [datO]
        · rw [atKey_del_other (lit_ne e)]
          dsimp only
          rw [if_neg e]
          exact HFO.out.2 j⟩
      have HT2 := Lib.hid hturn2.grown
      clear hown2 hturn2
      go_ret
      have hM2 := HD.out.mem.outer (Upd.grown HT2.out rfl) HO2.out (fun s' b' e => by
        split at e
        · cases e
        · exact e)
      refine ⟨rfl, m', left, HL.out, HD.out.done HL.out, ?_, HD.out.pv, HD.out.pl, HD.out.nS, HD.out.F, HD.out.nF, HD.out.d, HD.out.h, HD.out.u, HD.out.hu.trans (Upd.grown HT2.out (.inr (.inl rfl)))⟩
      have e : m.dropped m' s = { m' with nS := m'.nS, S := fun k => if k = s then none else m'.S k } := by
        unfold MS.dropped
        rw [HD.out.S]
      rw [e]
      exact hM2
    · intro x c kl y yp w1 cnt1 hkey hlx hRy hat hrg1 hlt hg1 hs1 hen
      obtain ⟨x', ex, rfl, hwx⟩ := keyOf_int_inv Tryz.underlying3 hkey
      cases ex
      have hbr : b ≠ w.heap.size := fun e => by omega
      rw [redE_enc] at hRy
      have hRy := congrArg Prod.fst (Option.some.inj hRy)
      have hc : m.F b x = c := by
        have h1 := hat .nil
        rw [(HF.out x).1] at h1
        have h1 : datE (m.F b x) = datE c := h1.trans hRy.symm
        exact datE_inj h1
      have hsome := HD.out.le x hlx
      rw [hc] at hsome
      obtain ⟨⟨g, r⟩, rfl⟩ := Option.isSome_iff_exists.1 hsome
      rw [encE_some] at hen ⊢
      have hD1 := HD.out
      have hu1 : Upd (fun k => k = w.heap.size) wr w1 := Upd.grown hg1 rfl
      have hsz : w.heap.size < wr.heap.size := hrg.lt
      have hnb : ∀ k, mB M so m' k → ¬ k = w.heap.size := fun k hk e => by
        have : mB M so m k := by
          rcases hk with q | q | q | ⟨s', q⟩ | q
          · exact .inl q
          · exact .inr (.inl q)
          · exact .inr (.inr (.inl (by rw [← hD1.pv]; exact q)))
          · exact .inr (.inr (.inr (.inl ⟨s', by rw [← hD1.S]; exact q⟩)))
          · rw [hD1.pl] at q; exact .inr (.inr (.inr (.inr (List.mem_filter.1 q).1)))
        have := HM.out.lt this
        omega
      have HD1 : Hid (Drp w m M so fr sl (m.F b) left (w1.alloc (.cells #[.pointer (some ⟨g, 0, none⟩), .int .i64 r] 222)) m') := Lib.hid ⟨(hD1.mem.upd hu1 hnb).keep (Go.Joins.below_alloc1 _ _), hD1.pl, hD1.pv, hD1.S, hD1.nS, hD1.F, hD1.nF, hD1.d, hD1.h, hD1.u, (hD1.hu.trans' hu1 (fun k hk e => by omega)).trans (Upd.below (Go.Joins.below_alloc1 _ _)), hD1.le⟩
      have HRG := Lib.hid (hrg1.alloc (.cells #[.pointer (some ⟨g, 0, none⟩), .int .i64 r] 222))
      obtain ⟨i, hi⟩ := HD1.out.at HW.out.2.2.1 (fun k g r e => (HW.out.2.2.2.1 k g r e).1) hc hlx
      have hgm : g ∈ m'.pl := List.mem_of_getElem? hi
      have hug : m'.u g = 1 := by rw [hD1.u g hgm]; exact (HW.out.2.2.2.1 x g r hc).2
      have HLET := Lib.hid (letG_is HD1.out.mem hi hug (by
        have : m'.pl.length ≤ m.pl.length := by rw [hD1.pl]; exact List.length_filter_le _ _
        have := HW.out.2.2.2.2
        omega) r)
      have HI := Lib.hid (And.intro hi (And.intro hc hlx))
      have HLT : Hid (cnt1 < cnt ∧ wr.rangeLeft b w.heap.size = cnt) := Lib.hid ⟨hlt, hrg.left_eq⟩
      have HNB := Lib.hid hnb
      clear hkey hlx hRy hat hrg1 hlt hg1 hs1 hrg hc hsome hD1 hu1 hnb hi hgm hug HD
      go_wp2_with (first | (go_at_call 83; refine HLET.out.mono ?_; rintro e3 w3 ⟨rfl, v3, hv3, hm3, hu3⟩) | fail)
      have hrg3 := ranges_upd HRG.out hu3 (fun e => by
        have hbS := HD1.out.S
        rcases e with e | e | e
        · exact (HM.out.n3 s b HW.out.1).1 e
        · subst e
          exact (HD1.out.mem.n4 b (List.mem_of_getElem? HI.out.1)).2.2.2 s (by rw [hbS]; exact HW.out.1)
        · exact (HD1.out.mem.n3 s b (by rw [hbS]; exact HW.out.1)).2.2 e) (fun e => by
        rcases e with e | e | e
        · exact HNB.out M (.inl rfl) e.symm
        · exact HNB.out g (.inr (.inr (.inr (.inr (List.mem_of_getElem? HI.out.1))))) e.symm
        · exact HNB.out _ (.inr (.inr (.inl e))) rfl)
      have HD3 := Lib.hid (HD1.out.next HM.out HW.out.2.2.1 HI.out.2.1 HI.out.2.2 HI.out.1 hv3 hm3 hu3)
      clear hv3 hm3 hu3
      go_roundw
      case rel => exact ⟨_, cnt1, _, hrg3, HD3⟩
      case measure => rw [hrg3.left_eq, HLT.out.2]; exact HLT.out.1
end
end Go.Proofs.YtnbhohaphmilmaaGreatDoor
namespace Go.Proofs.YtnbhohaphmilmaaGreatDoor
open Go.RowKit Go.Maps
set_option linter.unusedVariables false
set_option linter.unusedSimpArgs false
/-- the memory while a space is forked: the entries that were met are there -/
structure Frk (w : World) (m : MS) (M so : Nat) (fr sl : Int) (f : Int → Option (Nat × Int)) (nb : Nat) (left : Lit → Bool) (wr : World) (m' : MS) : Prop where
  mem : MemG wr M so fr sl m'
  pl : m'.pl = m.pl
  pv : m'.pv = m.pv
  S : m'.S = m.S
  nS : m'.nS = m.nS
  F : m'.F = fup m.F nb (fun k => if left (.int .i64 k) = true then none else f k)
  nF : ∀ b, b ≠ nb → m'.nF b = m.nF b
  d : m'.d = m.d
  h : m'.h = m.h
  u : ∀ g, m'.u g = if met f left g = true then m.u g + 1 else m.u g
  hu : Upd (mB M so m) w wr
  le : ∀ k, left (.int .i64 k) = true → (f k).isSome = true
section
variable {w w' wr : World} {M so g b nb : Nat} {fr sl : Int} {m m' : MS} {f : Int → Option (Nat × Int)} {left : Lit → Bool}
theorem Frk.keep (h : Frk w m M so fr sl f nb left wr m') (hb : Below wr.heap.size wr w') : Frk w m M so fr sl f nb left w' m' := ⟨h.mem.keep hb, h.pl, h.pv, h.S, h.nS, h.F, h.nF, h.d, h.h, h.u, h.hu.trans (Upd.below hb), h.le⟩
theorem Frk.mB (h : Frk w m M so fr sl f nb left wr m') {k : Nat} (hk : mB M so m' k) : mB M so m k := by
  rcases hk with q | q | q | ⟨s', q⟩ | q
  · exact .inl q
  · exact .inr (.inl q)
  · exact .inr (.inr (.inl (by rw [← h.pv]; exact q)))
  · exact .inr (.inr (.inr (.inl ⟨s', by rw [← h.S]; exact q⟩)))
  · rw [h.pl] at q; exact .inr (.inr (.inr (.inr q)))
theorem Frk.start (h : MemG w M so fr sl m) (hle : ∀ k, left (.int .i64 k) = (f k).isSome) (hnb : m.F nb = fun _ => none) : Frk w m M so fr sl f nb left w m := by
  refine ⟨h, rfl, rfl, rfl, rfl, ?_, fun _ _ => rfl, rfl, rfl, fun g => ?_, Upd.refl _ _, fun k hk => by rw [← hle]; exact hk⟩
  · rw [fup_id]
    rw [hnb]
    funext k
    split
    · rfl
    · rename_i e
      rw [hle] at e
      cases hk : f k with
      | none => rfl
      | some q => rw [hk] at e; exact absurd rfl e
  · rw [if_neg]
    intro e
    obtain ⟨k, r, hk, hk2⟩ := met_iff.1 e
    rw [hle, hk] at hk2
    cases hk2
/-- one entry more -/
theorem Frk.next (h : Frk w m M so fr sl f nb left wr m') (ha : Lone f) {x : Int} {r : Int} {s : Int} (hs : m.S s = some nb) (hx : f x = some (g, r)) (hl : left (.int .i64 x) = true) (hg : g ∈ m.pl) {w2 : World}
    (hi : IMap w2 nb (m'.nF nb + 1) (fun j => if j = x then some (g, r) else m'.F nb j)) (hg2 : (wr.setCell ⟨g, 16, none⟩ (.int .i64 (m.u g + 1))).grownBy w2 (some nb)) : ∃ m'', Frk w m M so fr sl f nb (fun z => left z && !z.sameKey (.int .i64 x)) w2 m'' ∧ m''.nF nb = m'.nF nb + 1 := by
  have hg' : g ∈ m'.pl := by rw [h.pl]; exact hg
  have h1 := h.mem.page (w' := wr.setCell ⟨g, 16, none⟩ (.int .i64 (m.u g + 1))) hg' (Upd.set _ _ rfl) ((h.mem.pg g hg').users (m.u g + 1))
  rw [MS.us] at h1
  have h2 := h1.space (s := s) (by show m'.S s = some nb; rw [h.S]; exact hs) (Upd.grown hg2 rfl) hi
  refine ⟨_, ⟨h2, h.pl, h.pv, h.S, h.nS, ?_, fun b hb => ?_, h.d, h.h, fun q => ?_, (h.hu.trans (Upd.set _ _ (.inr (.inr (.inr (.inr hg)))))).trans (Upd.grown hg2 (.inr (.inr (.inr (.inl ⟨s, hs⟩))))), fun k hk => h.le k (by
    have hk : (left (.int .i64 k) && !(Lit.int .i64 k).sameKey (.int .i64 x)) = true := hk
    exact (Bool.and_eq_true _ _ ▸ hk).1)⟩, ?_⟩
  · show fup m'.F nb _ = _
    rw [h.F]
    funext k
    unfold fup
    by_cases hk : k = nb
    · simp only [if_pos hk, if_true]
      funext j
      by_cases e : j = x
      · subst e
        rw [if_pos rfl, if_neg (by simp [same_int]), hx]
      · rw [if_neg e]
        by_cases e2 : left (.int .i64 j) = true
        · rw [if_pos e2, if_pos (by simp [same_int, e, e2])]
        · rw [if_neg e2, if_neg (by simp [same_int, e2])]
    · simp only [if_neg hk]
  · show fup m'.nF nb _ b = _
    rw [fup_off _ _ hb]; exact h.nF b hb
  · show fup m'.u g _ q = _
    rw [met_next ha hx hl q]
    by_cases e : q = g
    · subst e
      rw [fup_same, decide_eq_true rfl, Bool.or_true, if_pos rfl]
    · rw [fup_off _ _ e, decide_eq_false e, Bool.or_false]
      exact h.u q
  · show fup m'.nF nb _ nb = _
    rw [fup_same]
theorem Frk.users (h : Frk w m M so fr sl f nb left wr m') (ha : Lone f) {x : Int} {r : Int} (hx : f x = some (g, r)) (hl : left (.int .i64 x) = true) : m'.u g = m.u g := by
  rw [h.u, if_neg]
  intro e
  obtain ⟨k, r', hk, hk2⟩ := met_iff.1 e
  rw [ha k x g r' r hk hx, hl] at hk2
  cases hk2
/-- the state behind a fork -/
structure Forked (m m' : MS) (s s2 : Int) (b nb : Nat) : Prop where
  pl : m'.pl = m.pl
  pv : m'.pv = m.pv
  S : m'.S = fun k => if k = s2 then some nb else m.S k
  nS : m'.nS = m.nS + 1
  F : m'.F = fup m.F nb (m.F b)
  nF : ∀ b', b' ≠ nb → m'.nF b' = m.nF b'
  nFn : m'.nF nb ≤ m.nF b
  d : m'.d = m.d
  h : m'.h = m.h
  u0 : ∀ g, (∃ k r, m.F b k = some (g, r)) → m'.u g = m.u g + 1
  u1 : ∀ g, (¬ ∃ k r, m.F b k = some (g, r)) → m'.u g = m.u g
set_option maxRecDepth 100000 in
set_option maxHeartbeats 1000000 in
theorem forkG_is (h : MemG w M so fr sl m) {s : Int} {s2 : Nat} (hs : m.S s = some b) (hwf : (Lit.int .i64 s).wf = true) (h1 : 1 ≤ s2) (h16 : s2 ≤ 16) (h0 : m.S s2 = none) (hbs : ∀ j : Nat, 1 ≤ j → j < s2 → ∃ b, m.S j = some b) (hn : m.nS < 1000000) (ha : Lone (m.F b)) (hpl : ∀ k g r, m.F b k = some (g, r) → g ∈ m.pl ∧ 0 ≤ m.u g ∧ m.u g < 1000000) (hnF : m.nF b < 100000) :
    Calls Tryz.prog 251 #[.pointer (some ⟨M, 0, none⟩), .int .i64 s] w fun e w' => e = .returned (.tuple #[.int .i64 s2, .int .i64 0]) ∧ ∃ m' nb, w.heap.size ≤ nb ∧ Forked m m' s s2 b nb ∧ MemG w' M so fr sl m' ∧ Upd (mB M so m) w w' := by
  have m4 := h.m4
  have l1 := h.om.look hwf
  rw [hs] at l1
  change _ = Result.ok (Value.map (some b)) w at l1
  have l2 := map_no_nil w b
  have HM := Lib.hid h
  have HMK := Lib.hid (makeG_is h h1 h16 h0 hbs hn)
  have HW := Lib.hid (And.intro hs (And.intro hwf (And.intro ha (And.intro hpl hnF))))
  have H0 := Lib.hid h0
  have hbl : b < w.heap.size := h.lt (.inr (.inr (.inr (.inl ⟨s, hs⟩))))
  have hss : s ≠ s2 := fun e => by rw [e, h0] at hs; cases hs
  clear h hs hwf ha hpl hn h0 hbs hnF
  go_enter Tryz.func251, Tryz.ntmps251
  go_upto_region 6 with (go_at_call 32; refine HMK.out.mono ?_; rintro e1 w1 ⟨rfl, hm1, hu1⟩)
  obtain ⟨nb, hnb⟩ : ∃ nb, nb = w.heap.size := ⟨_, rfl⟩
  rw [← hnb] at hm1
  have HNB := Lib.hid hnb
  have HM1 := Lib.hid hm1
  have HU1 := Lib.hid hu1
  have m4 := hm1.m4
  have hs1 : (m.made s2 nb).S s = some b := by show (if s = (s2 : Int) then some nb else m.S s) = _; rw [if_neg hss]; exact HW.out.1
  have hbn : b ≠ nb := by omega
  have l1 := hm1.om.look HW.out.2.1
  rw [hs1] at l1
  change _ = Result.ok (Value.map (some b)) w1 at l1
  obtain ⟨D, hD, hm, hf⟩ := hm1.im s b hs1
  have hf : ∀ k, D.atKey (.int .i64 k) .nil = datE (m.F b k) ∧ Maps.has D (.int .i64 k) = (m.F b k).isSome := fun k => by
    have := hf k
    rwa [show (m.made s2 nb).F b k = m.F b k from by show fup m.F nb _ b k = _; rw [fup_off _ _ hbn]] at this
  have hD : w1.ownsMap Tryz.prog 3 redE b (m.nF b) D := by
    have := hD
    rwa [show (m.made s2 nb).nF b = m.nF b from by show fup m.nF nb _ b = _; rw [fup_off _ _ hbn]] at this
  have HF := Lib.hid hf
  clear hm1 hu1 hm HMK l2 hnb
  go_wp2_with (first | (at_range; refine wpList_range_own _ rfl _ 210 rfl 3 222 keyed3 Tryz.underlying210 redE b _ D rfl hD ?_; intro w0 hrg0 hg0 hs0) | fail)
  go_frame
  obtain ⟨r0, hr0⟩ : ∃ r0, r0 = w1.heap.size := ⟨_, rfl⟩
  rw [← hr0] at hrg0 ⊢
  have HSZ : Hid (Maps.size D ≤ m.nF b) := Lib.hid (by
    obtain ⟨es, ck, _, _, hle, rfl⟩ := hD
    simp [Maps.size, length_sorted]
    exact hle)
  have HD0 : Hid (Frk w1 (m.made s2 nb) M so fr sl (m.F b) nb (has D) w0 (m.made s2 nb)) := Lib.hid (by
    have h1 := Frk.start (w := w0) (left := has D) (f := m.F b) (nb := nb) (HM1.out.upd (S := fun _ => False) (Upd.grown0 hg0 (fun b e => by cases e)) (fun _ _ e => e)) (fun k => (hf k).2) (by show fup m.F nb _ nb = _; rw [fup_same])
    exact ⟨h1.mem, h1.pl, h1.pv, h1.S, h1.nS, h1.F, h1.nF, h1.d, h1.h, h1.u, Upd.grown0 hg0 (fun b e => by cases e), h1.le⟩)
  have HR0 : Hid (w1.heap.size ≤ r0 ∧ b < r0 ∧ ∀ k, mB M so (m.made s2 nb) k → k < r0) := Lib.hid ⟨by omega, by rw [hr0]; exact hD.lt, fun k hk => by rw [hr0]; exact HM1.out.lt hk⟩
  clear hg0 hs0 m4 l1 hf hD hr0 hbl
  go_loopw [8, 9] (fun _ _ wr => ∃ left cnt m', wr.ranges Tryz.prog 3 redE b r0 (m.nF b) D left cnt ∧ Hid (Frk w1 (m.made s2 nb) M so fr sl (m.F b) nb left wr m' ∧ m'.nF nb + cnt ≤ m.nF b)) (fun _ _ wr => wr.rangeLeft b r0)
  case atStart => exact ⟨_, _, _, hrg0, HD0.out, by show fup m.nF nb 0 nb + _ ≤ _; rw [fup_same]; have := HSZ.out; omega⟩
  case round =>
    clear hrg0 HD0
    obtain ⟨left, cnt, m', hrg, HD⟩ := hrel
    go_wp2_with (first | (at_next; refine wpList_next_ranges (α := Int) (β := Option (Nat × Int)) _ rfl _ rfl 3 keyed3 redE (Value.int .i64) encE (fun key kl hk => by obtain ⟨x, rfl, _⟩ := keyOf_int_inv Tryz.underlying3 hk; exact ⟨x, rfl⟩) (fun v y hv => redE_inv' hv) b r0 _ _ _ _ rfl hrg ?_ ?_) | fail)
    · intro hc0 hl0
      have HL := Lib.hid hl0
      clear hc0 hl0 hrg
      go_wp2_with fail
      go_ret2
      have hd := HD.out.1
      refine ⟨rfl, m', nb, by rw [HNB.out]; exact Nat.le_refl _, ⟨hd.pl, hd.pv, hd.S, hd.nS, ?_, fun b' hb' => ?_, by have := HD.out.2; omega, hd.d, hd.h, fun g hg => ?_, fun g hg => ?_⟩, hd.mem, (HU1.out.mono (S' := mB M so m) (fun k _ e => .inr (.inl e))).trans' hd.hu (fun k hk e => ?_)⟩
      · rw [hd.F]
        funext k
        unfold fup MS.made
        by_cases hk : k = nb
        · simp only [if_pos hk]
          funext j
          rw [HL.out]
          rfl
        · simp only [if_neg hk, fup_off _ _ hk]
      · rw [hd.nF b' hb']
        show fup m.nF nb 0 b' = _
        rw [fup_off _ _ hb']
      · obtain ⟨k, r, hk⟩ := hg
        rw [hd.u g, if_pos (met_iff.2 ⟨k, r, hk, HL.out _⟩)]
        rfl
      · rw [hd.u g, if_neg]
        · rfl
        · intro e
          obtain ⟨k, r, hk, _⟩ := met_iff.1 e
          exact hg ⟨k, r, hk⟩
      · rcases e with q | q | q | ⟨s', q⟩ | q
        · exact .inl q
        · exact .inr (.inl q)
        · exact .inr (.inr (.inl q))
        · have q : (if s' = (s2 : Int) then some nb else m.S s') = some k := q
          split at q
          · injection q with q; have := HNB.out; omega
          · exact .inr (.inr (.inr (.inl ⟨s', q⟩)))
        · exact .inr (.inr (.inr (.inr q)))
    · intro x c kl y yp w2 cnt1 hkey hlx hRy hat hrg1 hlt hg1 hs1' hen
      obtain ⟨x', ex, rfl, hwx⟩ := keyOf_int_inv Tryz.underlying3 hkey
      cases ex
      rw [redE_enc] at hRy
      have hRy := congrArg Prod.fst (Option.some.inj hRy)
      have hc : m.F b x = c := by
        have h1 := hat .nil
        rw [(HF.out x).1] at h1
        have h1 : datE (m.F b x) = datE c := h1.trans hRy.symm
        exact datE_inj h1
      have hsome := HD.out.1.le x hlx
      rw [hc] at hsome
      obtain ⟨⟨g, r⟩, rfl⟩ := Option.isSome_iff_exists.1 hsome
      rw [encE_some] at hen ⊢
      have hD1 := HD.out.1
      have hu1 : Upd (fun k => k = r0) wr w2 := Upd.grown hg1 rfl
      have hnb : ∀ k, mB M so m' k → ¬ k = r0 := fun k hk e => by have := HR0.out.2.2 k (hD1.mB hk); omega
      have hr0w := HR0.out.1
      have HD1 : Hid (Frk w1 (m.made s2 nb) M so fr sl (m.F b) nb left (w2.alloc (.cells #[.pointer (some ⟨g, 0, none⟩), .int .i64 r] 222)) m') := Lib.hid ⟨(hD1.mem.upd hu1 hnb).keep (Go.Joins.below_alloc1 _ _), hD1.pl, hD1.pv, hD1.S, hD1.nS, hD1.F, hD1.nF, hD1.d, hD1.h, hD1.u, (hD1.hu.trans' hu1 (fun k hk e => by omega)).trans (Upd.below (Go.Joins.below_alloc1 _ _)), hD1.le⟩
      have HRG := Lib.hid (hrg1.alloc (.cells #[.pointer (some ⟨g, 0, none⟩), .int .i64 r] 222))
      have hgm : g ∈ m.pl := (HW.out.2.2.2.1 x g r hc).1
      have hgm' : g ∈ m'.pl := by rw [hD1.pl]; exact hgm
      have hug : m'.u g = m.u g := HD1.out.users HW.out.2.2.1 hc hlx
      have hub : 0 ≤ m.u g ∧ m.u g < 1000000 := (HW.out.2.2.2.1 x g r hc).2
      have hp2 := HD1.out.mem.pg g hgm'
      have q16 := hp2.us
      rw [hug] at q16
      have f16 := hp2.fz 16
      have hrw := row_new w2 222 #[.pointer (some ⟨g, 0, none⟩), .int .i64 r]
      have e0 : (w2.alloc (.cells #[.pointer (some ⟨g, 0, none⟩), .int .i64 r] 222)).cell? ⟨w2.heap.size, 0, none⟩ = some (.pointer (some ⟨g, 0, none⟩)) := by rw [hrw.cell]; rfl
      have e1 : (w2.alloc (.cells #[.pointer (some ⟨g, 0, none⟩), .int .i64 r] 222)).cell? ⟨w2.heap.size, 1, none⟩ = some (.int .i64 r) := by rw [hrw.cell]; rfl
      have hgw : w2.heap.size ≠ g := fun e => by
        have h1 := (hD1.mem.upd hu1 hnb).lt (.inr (.inr (.inr (.inr hgm'))))
        omega
      have y0 : IntKind.i64.wrap (m.u g + 1) = m.u g + 1 := IntWalk.i64_in _ (by omega)
      have hsn : (m.made s2 nb).S s2 = some nb := by show (if (s2 : Int) = (s2 : Int) then some nb else m.S s2) = _; rw [if_pos rfl]
      have hgn : g ≠ nb := fun e => (HD1.out.mem.n4 g hgm').2.2.2 s2 (by rw [HD1.out.S, hsn, e])
      have hbn2 : ¬ g = M := (HD1.out.mem.n4 g hgm').1
      have hso2 : ¬ so = g := fun e => (HD1.out.mem.n4 g hgm').2.1 e.symm
      obtain ⟨ug, hu0⟩ : ∃ ug, ug = m.u g := ⟨_, rfl⟩
      rw [← hu0] at q16 hub y0
      have HU0 := Lib.hid hu0
      clear hu0
      -- the world behind the count
      have hu3 : Upd (fun k => k = g) (w2.alloc (.cells #[.pointer (some ⟨g, 0, none⟩), .int .i64 r] 222)) ((w2.alloc (.cells #[.pointer (some ⟨g, 0, none⟩), .int .i64 r] 222)).setCell ⟨g, 16, none⟩ (.int .i64 (ug + 1))) := Upd.set _ _ rfl
      have m4 : ((w2.alloc (.cells #[.pointer (some ⟨g, 0, none⟩), .int .i64 r] 222)).setCell ⟨g, 16, none⟩ (.int .i64 (ug + 1))).cell? ⟨M, 4, none⟩ = some (.map (some so)) := set_blk (fun e => hbn2 e.symm) HD1.out.mem.m4
      have hom3 := (HD1.out.mem.om.upd hu3 hso2).upd (w' := ((w2.alloc (.cells #[.pointer (some ⟨g, 0, none⟩), .int .i64 r] 222)).setCell ⟨g, 16, none⟩ (.int .i64 (ug + 1))).drew) (S := fun _ => False) (Upd.drew _) (fun e => e)
      have hwf2 : (Lit.int .i64 (s2 : Int)).wf = true := WalkArith.wf_i64 (by omega)
      have l3 := hom3.look hwf2
      rw [HD1.out.S, hsn] at l3
      change _ = Result.ok (Value.map (some nb)) _ at l3
      have him3 := (HD1.out.mem.im s2 nb (by rw [HD1.out.S, hsn])).upd hu3 (fun e => hgn e.symm)
      have him4 := him3.upd (w' := ((w2.alloc (.cells #[.pointer (some ⟨g, 0, none⟩), .int .i64 r] 222)).setCell ⟨g, 16, none⟩ (.int .i64 (ug + 1))).drew) (S := fun _ => False) (Upd.drew _) (fun e => e)
      obtain ⟨w5, hup, hi5, hg5⟩ := him4.put (k := x) hwx (by have := HD.out.2; have := HW.out.2.2.2.2; unfold maxLen; omega) g r
      rw [encE_some] at hup
      have HI5 := Lib.hid hi5
      have HG5 := Lib.hid hg5
      have HX := Lib.hid (And.intro hc (And.intro hlx (And.intro hgm hug)))
      have HLT : Hid (cnt1 < cnt ∧ wr.rangeLeft b r0 = cnt) := Lib.hid ⟨hlt, hrg.left_eq⟩
      have HN5 := Lib.hid (And.intro hgn (And.intro hsn (And.intro hgm' (And.intro hnb HD.out.2))))
      clear hkey hlx hRy hat hrg1 hlt hg1 hs1' hrg hc hsome hD1 hu1 hnb hgm hgm' hug HD hp2 hrw hu3 hom3 him3 him4 hi5 hg5 hr0w hsn hgn hso2
      go_upto_region 10 with fail
      go_region
      have hg6 : ((w2.alloc (.cells #[.pointer (some ⟨g, 0, none⟩), .int .i64 r] 222)).setCell ⟨g, 16, none⟩ (.int .i64 (ug + 1))).grownBy w5 (some nb) := grown_trans (b := ((w2.alloc (.cells #[.pointer (some ⟨g, 0, none⟩), .int .i64 r] 222)).setCell ⟨g, 16, none⟩ (.int .i64 (ug + 1))).drew) ⟨rfl, rfl, rfl, Nat.le_refl _, fun _ _ _ => rfl⟩ HG5.out
      have hbg : ¬ b = g := fun e => by
        have := (HD1.out.mem.n4 g HN5.out.2.2.1).2.2.2 s
        rw [HD1.out.S] at this
        exact this (by rw [show (m.made s2 nb).S s = some b from by show (if s = (s2 : Int) then some nb else m.S s) = _; rw [if_neg hss]; exact HW.out.1, e])
      have hrg5 := ranges_upd (ranges_upd (w' := (w2.alloc (.cells #[.pointer (some ⟨g, 0, none⟩), .int .i64 r] 222)).setCell ⟨g, 16, none⟩ (.int .i64 (ug + 1))) HRG.out (Upd.set _ _ (S := fun k => k = g) rfl) hbg (fun e => HN5.out.2.2.2.1 g (.inr (.inr (.inr (.inr HN5.out.2.2.1)))) e.symm)) (Upd.grown hg6 (S := fun k => k = nb) rfl) (fun e => hbn e) (fun e => HN5.out.2.2.2.1 nb (.inr (.inr (.inr (.inl ⟨s2, by rw [HD1.out.S]; exact HN5.out.2.1⟩)))) e.symm)
      obtain ⟨m6, hd6, hn6⟩ := HD1.out.next HW.out.2.2.1 HN5.out.2.1 HX.out.1 HX.out.2.1 HX.out.2.2.1 HI5.out (by rw [show (m.made s2 nb).u g = ug from HU0.out.symm]; exact hg6)
      have HD6 : Hid (Frk w1 (m.made s2 nb) M so fr sl (m.F b) nb (fun z => left z && !z.sameKey (.int .i64 x)) w5 m6 ∧ m6.nF nb + cnt1 ≤ m.nF b) := Lib.hid ⟨hd6, by rw [hn6]; have := HN5.out.2.2.2.2; have := HLT.out.1; omega⟩
      clear hg6 hbg hd6 hn6
      go_wp2_with fail
      go_roundw
      case rel => exact ⟨_, cnt1, m6, hrg5, HD6.out⟩
      case measure => rw [hrg5.left_eq, HLT.out.2]; exact HLT.out.1
end
end Go.Proofs.YtnbhohaphmilmaaGreatDoor
