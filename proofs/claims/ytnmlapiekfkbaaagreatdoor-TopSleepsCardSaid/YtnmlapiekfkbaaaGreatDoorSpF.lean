/- The walk of space's Drop, at a space whose pages nobody shares. -/
import Derived.Test.YtnmlapiekfkbaaaGreatDoorSpE
import Derived.Maps.RangeWalk
namespace Go.Proofs.YtnmlapiekfkbaaaGreatDoor
open Go.RowKit Go.Maps
set_option linter.unusedVariables false
set_option linter.unusedSimpArgs false
theorem redE_inv' {v : Value} {y : DataW Unit × List MemPlace} (h : redE v = some y) : ∃ c, v = encE c := by
  unfold redE at h
  split at h
  · rename_i h'; exact h'
  · cases h
open Classical in
/-- is a page's entry one that was met? -/
noncomputable def met (f : Int → Option (Nat × Int)) (left : Lit → Bool) (g : Nat) : Bool := decide (∃ k r, f k = some (g, r) ∧ left (.int .i64 k) = false)
theorem met_iff {f : Int → Option (Nat × Int)} {left : Lit → Bool} {g : Nat} : met f left g = true ↔ ∃ k r, f k = some (g, r) ∧ left (.int .i64 k) = false := by
  unfold met
  exact @decide_eq_true_iff _ (Classical.propDecidable _)
theorem same_int (a b : Int) : (Lit.int .i64 a).sameKey (.int .i64 b) = decide (a = b) := by simp [Lit.sameKey]
/-- each entry names a page of its own -/
def Lone (f : Int → Option (Nat × Int)) : Prop := ∀ k k' g r r', f k = some (g, r) → f k' = some (g, r') → k = k'
theorem met_next {f : Int → Option (Nat × Int)} {left : Lit → Bool} (ha : Lone f) {x : Int} {g : Nat} {r : Int} (hx : f x = some (g, r)) (hl : left (.int .i64 x) = true) (q : Nat) : met f (fun z => left z && !z.sameKey (.int .i64 x)) q = (met f left q || decide (q = g)) := by
  by_cases e : q = g
  · subst e
    rw [decide_eq_true rfl, Bool.or_true]
    exact met_iff.2 ⟨x, r, hx, by simp [same_int]⟩
  · rw [decide_eq_false e, Bool.or_false]
    cases hm : met f left q
    · cases hm' : met f (fun z => left z && !z.sameKey (.int .i64 x)) q
      · rfl
      · obtain ⟨k, r', hk, hk2⟩ := met_iff.1 hm'
        by_cases e2 : k = x
        · subst e2; rw [hx] at hk; injection hk with hk; injection hk with hk; exact absurd hk.symm e
        · have h3 : left (.int .i64 k) = false := by simpa [same_int, e2] using hk2
          rw [met_iff.2 ⟨k, r', hk, h3⟩] at hm; cases hm
    · obtain ⟨k, r', hk, hk2⟩ := met_iff.1 hm
      exact met_iff.2 ⟨k, r', hk, by simp [hk2]⟩
/-- the pages that are left -/
noncomputable def kept (m : MS) (f : Int → Option (Nat × Int)) (left : Lit → Bool) : List Nat := m.pl.filter fun g => !met f left g
/-- the memory while a space is dropped: the pages that were met are gone -/
structure Drp (w : World) (m : MS) (M so : Nat) (fr sl : Int) (f : Int → Option (Nat × Int)) (left : Lit → Bool) (wr : World) (m' : MS) : Prop where
  mem : MemG wr M so fr sl m'
  pl : m'.pl = kept m f left
  pv : m'.pv.ownBlock = m.pv.ownBlock
  S : m'.S = m.S
  nS : m'.nS = m.nS
  F : m'.F = m.F
  nF : m'.nF = m.nF
  d : m'.d = m.d
  h : m'.h = m.h
  u : ∀ g, g ∈ m'.pl → m'.u g = m.u g
  hu : Upd (mB M so m) w wr
  le : ∀ k, left (.int .i64 k) = true → (f k).isSome = true
section
variable {w w' wr : World} {M so g b : Nat} {fr sl : Int} {m m' : MS} {f : Int → Option (Nat × Int)} {left : Lit → Bool}
theorem Drp.keep (h : Drp w m M so fr sl f left wr m') (hb : Below wr.heap.size wr w') : Drp w m M so fr sl f left w' m' := ⟨h.mem.keep hb, h.pl, h.pv, h.S, h.nS, h.F, h.nF, h.d, h.h, h.u, h.hu.trans (Upd.below hb), h.le⟩
theorem erase_filter : ∀ {l : List Nat}, l.Nodup → ∀ {i g : Nat}, l[i]? = some g → l.eraseIdx i = l.filter (fun x => !decide (x = g))
  | [], _, i, g, h => by simp at h
  | a :: t, hn, 0, g, h => by
    simp at h
    subst h
    rw [List.nodup_cons] at hn
    rw [List.filter_cons_of_neg (by simp), List.filter_eq_self.2 (fun x hx => by
      have : x ≠ a := fun e => hn.1 (e ▸ hx)
      simpa using this)]
    rfl
  | a :: t, hn, i + 1, g, h => by
    rw [List.nodup_cons] at hn
    have h' : t[i]? = some g := by simpa using h
    have : a ≠ g := fun e => hn.1 (e ▸ List.mem_of_getElem? h')
    rw [List.filter_cons_of_pos (by simpa using this), List.eraseIdx_cons_succ, erase_filter hn.2 h']
theorem filter_erase {l : List Nat} (hnd : l.Nodup) {p : Nat → Bool} {i g : Nat} (hi : (l.filter p)[i]? = some g) : (l.filter p).eraseIdx i = l.filter (fun x => p x && !decide (x = g)) := by
  rw [erase_filter (hnd.sublist List.filter_sublist) hi, List.filter_filter]
  congr 1
  funext x
  exact Bool.and_comm _ _
theorem ranges_upd {S : Nat → Prop} {r n : Nat} {D : DataW Unit} {cnt : Nat} (h : w.ranges Tryz.prog 3 redE b r n D left cnt) (hu : Upd S w w') (hb : ¬ S b) (hr : ¬ S r) : w'.ranges Tryz.prog 3 redE b r n D left cnt := by
  have lt : ∀ {k o}, w.heap[k]? = some o → k < w.heap.size := fun h => (Array.getElem?_eq_some_iff.1 h).1
  obtain ⟨es, c1, c2, a, c3, h1, F, h2, h3, h4, rest⟩ := h
  exact ⟨es, c1, c2, a, c3, (hu.block b (lt h1) hb).trans h1, F, h2, h3, (hu.block r (lt h4) hr).trans h4, rest⟩
theorem Drp.start (h : MemG w M so fr sl m) (hle : ∀ k, left (.int .i64 k) = (f k).isSome) : Drp w m M so fr sl f left w m := by
  refine ⟨h, ?_, rfl, rfl, rfl, rfl, rfl, rfl, rfl, fun _ _ => rfl, Upd.refl _ _, fun k hk => by rw [← hle]; exact hk⟩
  unfold kept
  rw [List.filter_eq_self.2 (fun x _ => ?_)]
  cases hm : met f left x
  · rfl
  · obtain ⟨k, r, hk, hk2⟩ := met_iff.1 hm
    rw [hle, hk] at hk2
    cases hk2
theorem Drp.at (h : Drp w m M so fr sl f left wr m') (ha : Lone f) (hpl : ∀ k g r, f k = some (g, r) → g ∈ m.pl) {x : Int} {g : Nat} {r : Int} (hx : f x = some (g, r)) (hl : left (.int .i64 x) = true) : ∃ i : Nat, m'.pl[i]? = some g := by
  have hg : g ∈ m'.pl := by
    rw [h.pl]
    refine List.mem_filter.2 ⟨hpl x g r hx, ?_⟩
    cases hm : met f left g
    · rfl
    · obtain ⟨k, r', hk, hk2⟩ := met_iff.1 hm
      rw [ha k x g r' r hk hx, hl] at hk2
      cases hk2
  obtain ⟨i, hi, e⟩ := List.getElem_of_mem hg
  exact ⟨i, by rw [List.getElem?_eq_getElem hi, e]⟩
theorem Drp.next (h : Drp w m M so fr sl f left wr m') (h0 : MemG w M so fr sl m) (ha : Lone f) {x : Int} {g i : Nat} {r : Int} (hx : f x = some (g, r)) (hl : left (.int .i64 x) = true) (hi : m'.pl[i]? = some g) {w1 : World} {v : Value} (hv : v.ownBlock = m'.pv.ownBlock) (hm : MemG w1 M so fr sl (m'.less v g i)) (hu : Upd (fun k => k = M ∨ k = g ∨ m'.pv.ownBlock = some k) wr w1) : Drp w m M so fr sl f (fun z => left z && !z.sameKey (.int .i64 x)) w1 (m'.less v g i) := by
  refine ⟨hm, ?_, hv.trans h.pv, h.S, h.nS, h.F, h.nF, h.d, h.h, fun q hq => ?_, h.hu.trans' hu (fun k hk e => ?_), fun k hk => h.le k (by
    have hk : (left (.int .i64 k) && !(Lit.int .i64 k).sameKey (.int .i64 x)) = true := hk
    exact (Bool.and_eq_true _ _ ▸ hk).1)⟩
  · show m'.pl.eraseIdx i = _
    have hi' := hi
    rw [h.pl] at hi'
    rw [h.pl]
    unfold kept at hi' ⊢
    rw [filter_erase h0.nd hi']
    congr 1
    funext q
    rw [met_next ha hx hl q, Bool.not_or]
  · have hq' : q ∈ m'.pl := List.mem_of_mem_eraseIdx hq
    have hne : q ≠ g := fun e => by
      subst e
      have hq2 : q ∈ m'.pl.eraseIdx i := hq
      rw [erase_filter h.mem.nd hi] at hq2
      have := (List.mem_filter.1 hq2).2
      simp at this
    show fup m'.u g 0 q = m.u q
    rw [fup_off _ _ hne]
    exact h.u q hq'
  · rcases e with e | e | e
    · exact .inl e
    · subst e
      have := List.mem_of_getElem? hi
      rw [h.pl] at this
      exact .inr (.inr (.inr (.inr (List.mem_filter.1 this).1)))
    · exact .inr (.inr (.inl (by rw [← h.pv]; exact e)))
theorem Drp.done (h : Drp w m M so fr sl f left wr m') (hl : ∀ kl, left kl = false) (q : Nat) : q ∈ m'.pl ↔ q ∈ m.pl ∧ ¬ ∃ k r, f k = some (q, r) := by
  rw [h.pl]
  unfold kept
  rw [List.mem_filter]
  constructor
  · rintro ⟨h1, h2⟩
    refine ⟨h1, fun ⟨k, r, hk⟩ => ?_⟩
    rw [met_iff.2 ⟨k, r, hk, hl _⟩] at h2
    cases h2
  · rintro ⟨h1, h2⟩
    refine ⟨h1, ?_⟩
    cases hm : met f left q
    · rfl
    · obtain ⟨k, r, hk, _⟩ := met_iff.1 hm
      exact absurd ⟨k, r, hk⟩ h2
/-- the state behind a drop -/
def MS.dropped (m m' : MS) (s : Int) : MS := { m' with S := fun k => if k = s then none else m.S k }
theorem OMap.del {so n : Nat} {S : Int → Option Nat} (h : OMap w so n S) {s : Int} (hs : (Lit.int .i64 s).wf = true) (ty : TypeId) : ∃ w', (Builtin.delete_ #[221, 3] ty #[.map (some so), .int .i64 s]).run Tryz.prog w = .ok (.tuple #[]) w' ∧ OMap w' so n (fun k => if k = s then none else S k) ∧ w.grownBy w' (some so) := by
  obtain ⟨D, hD, hm, hf⟩ := h
  obtain ⟨w', hr, ho, ht⟩ := hD.drop keyed3 Tryz.underlying221 (keyOf_int_mk Tryz.underlying3 hs) ty
  refine ⟨w', hr, ⟨_, ho, hm.del _, fun j => ?_⟩, ht.grown⟩
  by_cases e : j = s
  · subst e
    rw [atKey_del_same]
    simp [datO]
  · rw [atKey_del_other (lit_ne e)]
    dsimp only
    rw [if_neg e]
    exact hf j
attribute [local go_sem ↓] bd_16
set_option maxRecDepth 100000 in
set_option maxHeartbeats 1000000 in
theorem dropG_is (h : MemG w M so fr sl m) {s : Int} (hs : m.S s = some b) (hwf : (Lit.int .i64 s).wf = true) (ha : Lone (m.F b)) (hpl : ∀ k g r, m.F b k = some (g, r) → g ∈ m.pl ∧ m.u g = 1) (hl : m.pl.length ≤ 100000) :
    Calls Tryz.prog 109 #[.pointer (some ⟨M, 0, none⟩), .int .i64 s] w fun e w' => e = .returned (.int .i64 0) ∧ ∃ m' left, (∀ kl, left kl = false) ∧ (∀ q, q ∈ m'.pl ↔ q ∈ m.pl ∧ ¬ ∃ k r, m.F b k = some (q, r)) ∧ MemG w' M so fr sl (m.dropped m' s) ∧ m'.pv.ownBlock = m.pv.ownBlock ∧ m'.pl = kept m (m.F b) left ∧ m'.nS = m.nS ∧ m'.F = m.F ∧ m'.nF = m.nF ∧ m'.d = m.d ∧ m'.h = m.h ∧ (∀ g, g ∈ m'.pl → m'.u g = m.u g) ∧ Upd (mB M so m) w w' := by
  have m4 := h.m4
  have l1 := h.om.look hwf
  rw [hs] at l1
  change _ = Result.ok (Value.map (some b)) w at l1
  have l2 := map_no_nil w b
  have HM := Lib.hid h
  have HW := Lib.hid (And.intro hs (And.intro hwf (And.intro ha (And.intro hpl hl))))
  obtain ⟨D, hD, hm, hf⟩ := h.im s b hs
  have HF := Lib.hid hf
  have hbl := hD.lt
  clear h hs hwf ha hpl hl hm
  go_enter Tryz.func109, Tryz.ntmps109
  go_wp2_with (first | (at_range; refine wpList_range_own _ rfl _ 225 rfl 3 234 keyed3 Tryz.underlying225 redE b _ D rfl hD ?_; intro w0 hrg0 hg0 hs0) | fail)
  go_frame
  have HD0 : Hid (Drp w m M so fr sl (m.F b) (has D) w0 m) := Lib.hid (by
    have h1 := Drp.start (w := w0) (left := has D) (f := m.F b) (HM.out.upd (S := fun _ => False) (Upd.grown0 hg0 (fun b e => by cases e)) (fun _ _ e => e)) (fun k => (hf k).2)
    exact ⟨h1.mem, h1.pl, h1.pv, h1.S, h1.nS, h1.F, h1.nF, h1.d, h1.h, h1.u, Upd.grown0 hg0 (fun b e => by cases e), h1.le⟩)
  clear hg0 hs0 m4 l1 hf hD
  go_loopw [6] (fun _ wr => ∃ left cnt m', wr.ranges Tryz.prog 3 redE b w.heap.size (m.nF b) D left cnt ∧ Hid (Drp w m M so fr sl (m.F b) left wr m')) (fun _ wr => wr.rangeLeft b w.heap.size)
  case atStart => exact ⟨_, _, _, hrg0, HD0⟩
  case round =>
    clear hrg0 HD0
    obtain ⟨left, cnt, m', hrg, HD⟩ := hrel
    go_wp2_with (first | (at_next; refine wpList_next_ranges (α := Int) (β := Option (Nat × Int)) _ rfl _ rfl 3 keyed3 redE (Value.int .i64) encE (fun key kl hk => by obtain ⟨x, rfl, _⟩ := keyOf_int_inv Tryz.underlying3 hk; exact ⟨x, rfl⟩) (fun v y hv => redE_inv' hv) b w.heap.size _ _ _ _ rfl hrg ?_ ?_) | fail)
    · intro hc0 hl0
      have HL := Lib.hid hl0
      have m4 := HD.out.mem.m4
      obtain ⟨DO, hDO, hmO, hfO⟩ := HD.out.mem.om
      have HFO := Lib.hid (And.intro hmO hfO)
      clear hc0 hl0 hrg hmO hfO
      have hkey : keyOf Tryz.prog 3 (.int .i64 s) = some (.int .i64 s) := keyOf_int_mk Tryz.underlying3 HW.out.2.1
      go_wp2_with (first | (at_delete; refine wpList_delete_own _ rfl _ _ 221 3 rfl _ keyed3 Tryz.underlying221 redO so _ DO rfl hDO _ _ rfl hkey ?_; intro w2 hown2 hturn2) | fail)
      have HO2 : Hid (OMap w2 so m'.nS (fun k => if k = s then none else m'.S k)) := Lib.hid ⟨_, hown2, HFO.out.1.del _, fun j => by
        by_cases e : j = s
        · subst e
          rw [atKey_del_same]
          simp [datO]
        · rw [atKey_del_other (lit_ne e)]
          dsimp only
          rw [if_neg e]
          exact HFO.out.2 j⟩
      have HT2 := Lib.hid hturn2.grown
      clear hown2 hturn2
      go_ret
      have hM2 := HD.out.mem.outer (Upd.grown HT2.out rfl) HO2.out (fun s' b' e => by
        split at e
        · cases e
        · exact e)
      refine ⟨rfl, m', left, HL.out, HD.out.done HL.out, ?_, HD.out.pv, HD.out.pl, HD.out.nS, HD.out.F, HD.out.nF, HD.out.d, HD.out.h, HD.out.u, HD.out.hu.trans (Upd.grown HT2.out (.inr (.inl rfl)))⟩
      have e : m.dropped m' s = { m' with nS := m'.nS, S := fun k => if k = s then none else m'.S k } := by
        unfold MS.dropped
        rw [HD.out.S]
      rw [e]
      exact hM2
    · intro x c kl y yp w1 cnt1 hkey hlx hRy hat hrg1 hlt hg1 hs1 hen
      obtain ⟨x', ex, rfl, hwx⟩ := keyOf_int_inv Tryz.underlying3 hkey
      cases ex
      have hbr : b ≠ w.heap.size := fun e => by omega
      rw [redE_enc] at hRy
      have hRy := congrArg Prod.fst (Option.some.inj hRy)
      have hc : m.F b x = c := by
        have h1 := hat .nil
        rw [(HF.out x).1] at h1
        have h1 : datE (m.F b x) = datE c := h1.trans hRy.symm
        exact datE_inj h1
      have hsome := HD.out.le x hlx
      rw [hc] at hsome
      obtain ⟨⟨g, r⟩, rfl⟩ := Option.isSome_iff_exists.1 hsome
      rw [encE_some] at hen ⊢
      have hD1 := HD.out
      have hu1 : Upd (fun k => k = w.heap.size) wr w1 := Upd.grown hg1 rfl
      have hsz : w.heap.size < wr.heap.size := hrg.lt
      have hnb : ∀ k, mB M so m' k → ¬ k = w.heap.size := fun k hk e => by
        have : mB M so m k := by
          rcases hk with q | q | q | ⟨s', q⟩ | q
          · exact .inl q
          · exact .inr (.inl q)
          · exact .inr (.inr (.inl (by rw [← hD1.pv]; exact q)))
          · exact .inr (.inr (.inr (.inl ⟨s', by rw [← hD1.S]; exact q⟩)))
          · rw [hD1.pl] at q; exact .inr (.inr (.inr (.inr (List.mem_filter.1 q).1)))
        have := HM.out.lt this
        omega
      have HD1 : Hid (Drp w m M so fr sl (m.F b) left (w1.alloc (.cells #[.pointer (some ⟨g, 0, none⟩), .int .i64 r] 234)) m') := Lib.hid ⟨(hD1.mem.upd hu1 hnb).keep (Go.Joins.below_alloc1 _ _), hD1.pl, hD1.pv, hD1.S, hD1.nS, hD1.F, hD1.nF, hD1.d, hD1.h, hD1.u, (hD1.hu.trans' hu1 (fun k hk e => by omega)).trans (Upd.below (Go.Joins.below_alloc1 _ _)), hD1.le⟩
      have HRG := Lib.hid (hrg1.alloc (.cells #[.pointer (some ⟨g, 0, none⟩), .int .i64 r] 234))
      obtain ⟨i, hi⟩ := HD1.out.at HW.out.2.2.1 (fun k g r e => (HW.out.2.2.2.1 k g r e).1) hc hlx
      have hgm : g ∈ m'.pl := List.mem_of_getElem? hi
      have hug : m'.u g = 1 := by rw [hD1.u g hgm]; exact (HW.out.2.2.2.1 x g r hc).2
      have HLET := Lib.hid (letG_is HD1.out.mem hi hug (by
        have : m'.pl.length ≤ m.pl.length := by rw [hD1.pl]; exact List.length_filter_le _ _
        have := HW.out.2.2.2.2
        omega) r)
      have HI := Lib.hid (And.intro hi (And.intro hc hlx))
      have HLT : Hid (cnt1 < cnt ∧ wr.rangeLeft b w.heap.size = cnt) := Lib.hid ⟨hlt, hrg.left_eq⟩
      have HNB := Lib.hid hnb
      clear hkey hlx hRy hat hrg1 hlt hg1 hs1 hrg hc hsome hD1 hu1 hnb hi hgm hug HD
      go_wp2_with (first | (go_at_call 102; refine HLET.out.mono ?_; rintro e3 w3 ⟨rfl, v3, hv3, hm3, hu3⟩) | fail)
      have hrg3 := ranges_upd HRG.out hu3 (fun e => by
        have hbS := HD1.out.S
        rcases e with e | e | e
        · exact (HM.out.n3 s b HW.out.1).1 e
        · subst e
          exact (HD1.out.mem.n4 b (List.mem_of_getElem? HI.out.1)).2.2.2 s (by rw [hbS]; exact HW.out.1)
        · exact (HD1.out.mem.n3 s b (by rw [hbS]; exact HW.out.1)).2.2 e) (fun e => by
        rcases e with e | e | e
        · exact HNB.out M (.inl rfl) e.symm
        · exact HNB.out g (.inr (.inr (.inr (.inr (List.mem_of_getElem? HI.out.1))))) e.symm
        · exact HNB.out _ (.inr (.inr (.inl e))) rfl)
      have HD3 := Lib.hid (HD1.out.next HM.out HW.out.2.2.1 HI.out.2.1 HI.out.2.2 HI.out.1 hv3 hm3 hu3)
      clear hv3 hm3 hu3
      go_roundw
      case rel => exact ⟨_, cnt1, _, hrg3, HD3⟩
      case measure => rw [hrg3.left_eq, HLT.out.2]; exact HLT.out.1
end
end Go.Proofs.YtnmlapiekfkbaaaGreatDoor
