/- The ways from do to open, and to process for SetId; what an answer of a call may be, with the file system. The walk of (*proc.Table).All where process 1 alone lives. Printed by gen_kpa.py. The walks of path.Split at "/f" and at "/". -/
import Derived.Test.YtcdjkheelbikjaaGreatDoorKfD
import Derived.Test.YtcdjkheelbikjaaGreatDoorPathD
namespace Go.Proofs.YtcdjkheelbikjaaGreatDoor
open Go.RowKit
set_option linter.unusedVariables false
set_option linter.unusedSimpArgs false
/-- what an answer may be, and how the kernel and its file system stand behind it; g: a block that holds a directory -/
def KOutF (B0 : Nat) (k : KC) (fc : FC) (tag0 : Nat → Nat) (bs0 : Nat → Prop) (T : KSt → FM → Nat → Int → Int → Int → Prop) (w : World) (X : Array Value) (w' : World) : Prop :=
  ∃ s x g e a b, KF w' k s fc x ∧ FarT tag0 w.heap.size s.tag ∧ (∀ j, x.bs j → bs0 j ∨ w.heap.size ≤ j) ∧ w'.cell? ⟨g, 0, none⟩ = some (.int .i64 1) ∧ (g < B0 ∨ w.heap.size ≤ g) ∧ X = ansV e a b (.slice none 0 0) ∧ T s x g e a b ∧ Upd (fun j => tag0 j ≠ 0 ∨ bs0 j ∨ w.heap.size ≤ j) w w'
theorem koutF_ok {w0 : World} {k : KC} {fc : FC} {tag0 : Nat → Nat} {bs0 : Nat → Prop} (hz : ∀ j, w0.heap.size ≤ j → tag0 j = 0) (hb : ∀ j, bs0 j → j < w0.heap.size) (T : KSt → FM → Nat → Int → Int → Int → Prop) : OutOk w0 (KOutF w0.heap.size k fc tag0 bs0 T) := by
  refine ⟨?_, ?_, ?_⟩
  · rintro w w1 w2 b C X h0 h1 ⟨s, x, g, e, a, r, hs, hf, hx, hg, hgl, hX, hT, hU⟩ hb0 hb1
    have z0 := h0.size
    have z1 := h1.size
    have u : Upd (fun k => k = b) w2 (w2.setRow b C) := Upd.setRow w2 C rfl
    refine ⟨s, x, g, e, a, r, hs.upd u (fun j hj q => ?_) (fun j hj q => ?_), fun j hj => ?_, fun j hj => ?_, (u.cell (World.block_lt_of_cell? w2 _ hg) (fun q => ?_)).trans hg, hgl.imp_right fun q => by omega, hX, hT, ((Upd.below h1).trans (hU.mono fun i _ e => ?_)).trans' u (fun i hi e => by omega)⟩
    · have q : j = b := q
      rcases hf j hj with e | e
      · exact e (hz j (by omega))
      · omega
    · have q : j = b := q
      rcases hx j hj with e | e
      · have := hb j e; omega
      · omega
    · exact (hf j hj).imp_right fun e => by omega
    · exact (hx j hj).imp_right fun e => by omega
    · have q : g = b := q
      omega
    · exact e.imp_right fun e => e.imp_right fun e => by omega
  · rintro w w1 w2 X h0 h1 ⟨s, x, g, e, a, r, hs, hf, hx, hg, hgl, hX, hT, hU⟩
    have z1 := h1.size
    exact ⟨s, x, g, e, a, r, hs, fun j hj => (hf j hj).imp_right fun e => by omega, fun j hj => (hx j hj).imp_right fun e => by omega, hg, hgl.imp_right fun q => by omega, hX, hT, (Upd.below h1).trans (hU.mono fun i _ e => e.imp_right fun e => e.imp_right fun e => by omega)⟩
  · rintro w X w2 w3 ⟨s, x, g, e, a, r, hs, hf, hx, hg, hgl, hX, hT, hU⟩ hb
    exact ⟨s, x, g, e, a, r, hs.keep hb, hf, hx, (hb.cell (p := ⟨g, 0, none⟩) (World.block_lt_of_cell? w2 _ hg)).trans hg, hgl, hX, hT, hU.trans (Upd.below hb)⟩
section
variable {w0 w : World} {Out : World → Array Value → World → Prop} {k : KC} {s : KSt} {p b0 b1 b2 : Nat} {A : Array Value}
attribute [local go_sem ↓] ld_ans st_ans ld_call
set_option maxRecDepth 100000 in
set_option maxHeartbeats 1000000 in
theorem descO_is {K : Nat} {q : Int} (ok : OutOk w0 Out) {num : Int} (hn : num = 5) (hA : A.size = 7) (ha : A[0]? = some (.int .i64 num)) (hs : Spec w0 Out 84 #[.pointer (some ⟨K, 0, none⟩), .int .i64 q, .agg A]) :
    Spec w0 Out 45 #[.pointer (some ⟨K, 0, none⟩), .int .i64 q, .agg A] := by
  intro w h0
  have hb1 := Go.Joins.below_alloc1 w (.cells A 40)
  have hal : Below w.heap.size w ((w.alloc (.cells A 40)).alloc (.cells ansZ 37)) := hb1.trans ((Go.Joins.below_alloc1 _ _).mono hb1.size)
  have hr1 := (row_new w 40 A).alloc (.cells ansZ 37)
  have hr2 := row_new (w.alloc (.cells A 40)) 37 ansZ
  rw [size_alloc1] at hr2
  have d0 : ((w.alloc (.cells A 40)).alloc (.cells ansZ 37)).cell? ⟨w.heap.size, 0, none⟩ = some (.int .i64 num) := by rw [hr1.cell, ha]
  have l2 := ld_callR hr1 hA
  have HR : Hid (Row ((w.alloc (.cells A 40)).alloc (.cells #[.int .i64 0, .int .i64 0, .int .i64 0, .slice none 0 0, .slice none 0 0, .int .i64 0, .int .i64 0, .int .i64 0, .int .i64 0, .int .i64 0, .int .i64 0] 37)) (w.heap.size + 1) 37 ansZ) := Lib.hid hr2
  have HB := Lib.hid hal
  have HC := Lib.hid (hs _ (h0.trans (hal.mono h0.size)))
  have HOK := Lib.hid ok
  have H0 := Lib.hid h0
  have HLT := Lib.hid hr2.lt
  clear hal hr1 hr2 hA hs ok h0 ha hb1
  have hz : ansZ = #[.int .i64 0, .int .i64 0, .int .i64 0, .slice none 0 0, .slice none 0 0, .int .i64 0, .int .i64 0, .int .i64 0, .int .i64 0, .int .i64 0, .int .i64 0] := rfl
  rw [hz] at d0 l2 HB HC HLT
  subst hn
  all_goals
    go_enter Tryz.func45, Tryz.ntmps45
    go_upto_region 1 with fail
    generalize (w.alloc (.cells A 40)).alloc (.cells #[.int .i64 0, .int .i64 0, .int .i64 0, .slice none 0 0, .slice none 0 0, .int .i64 0, .int .i64 0, .int .i64 0, .int .i64 0, .int .i64 0, .int .i64 0] 37) = w1 at *
    go_wp2_with (go_at_call 84; refine HC.out.mono ?_; rintro e2 w2 ⟨X, rfl, hX, hone, hu, ho⟩; have hr := ans_row H0.out HR.out (Nat.le_succ _) hu; have hst := ans_st hr hX hone; have HLD := Lib.hid (ans_ldV hr hX); have HP := Lib.hid (HOK.out.put (C := X) H0.out HB.out hu ho (Nat.le_succ _) HLT.out); have HX := Lib.hid (And.intro hX hone); clear hr hX hone hu ho; generalize w2.setRow (w.heap.size + 1) X = w3 at *)
    exact bodyPost_ret (v := .agg X) (by rw [results_cell1 rfl]; simp [asAddr, Result.andThen, HLD.out]) rfl ⟨X, rfl, HX.out.1, HX.out.2, HP.out.1, HP.out.2⟩
set_option maxRecDepth 100000 in
set_option maxHeartbeats 1000000 in
theorem doD_is {K : Nat} {q : Int} (ok : OutOk w0 Out) {num : Int} (hn : num = 5) (hA : A.size = 7) (ha : A[0]? = some (.int .i64 num)) (hs : Spec w0 Out 45 #[.pointer (some ⟨K, 0, none⟩), .int .i64 q, .agg A]) :
    Spec w0 Out 24 #[.pointer (some ⟨K, 0, none⟩), .int .i64 q, .agg A] := by
  intro w h0
  have hb1 := Go.Joins.below_alloc1 w (.cells A 40)
  have hal : Below w.heap.size w ((w.alloc (.cells A 40)).alloc (.cells ansZ 37)) := hb1.trans ((Go.Joins.below_alloc1 _ _).mono hb1.size)
  have hr1 := (row_new w 40 A).alloc (.cells ansZ 37)
  have hr2 := row_new (w.alloc (.cells A 40)) 37 ansZ
  rw [size_alloc1] at hr2
  have d0 : ((w.alloc (.cells A 40)).alloc (.cells ansZ 37)).cell? ⟨w.heap.size, 0, none⟩ = some (.int .i64 num) := by rw [hr1.cell, ha]
  have l2 := ld_callR hr1 hA
  have HR : Hid (Row ((w.alloc (.cells A 40)).alloc (.cells #[.int .i64 0, .int .i64 0, .int .i64 0, .slice none 0 0, .slice none 0 0, .int .i64 0, .int .i64 0, .int .i64 0, .int .i64 0, .int .i64 0, .int .i64 0] 37)) (w.heap.size + 1) 37 ansZ) := Lib.hid hr2
  have HB := Lib.hid hal
  have HC := Lib.hid (hs _ (h0.trans (hal.mono h0.size)))
  have HOK := Lib.hid ok
  have H0 := Lib.hid h0
  have HLT := Lib.hid hr2.lt
  clear hal hr1 hr2 hA hs ok h0 ha hb1
  have hz : ansZ = #[.int .i64 0, .int .i64 0, .int .i64 0, .slice none 0 0, .slice none 0 0, .int .i64 0, .int .i64 0, .int .i64 0, .int .i64 0, .int .i64 0, .int .i64 0] := rfl
  rw [hz] at d0 l2 HB HC HLT
  subst hn
  all_goals
    go_enter Tryz.func24, Tryz.ntmps24
    go_upto_region 1 with fail
    generalize (w.alloc (.cells A 40)).alloc (.cells #[.int .i64 0, .int .i64 0, .int .i64 0, .slice none 0 0, .slice none 0 0, .int .i64 0, .int .i64 0, .int .i64 0, .int .i64 0, .int .i64 0, .int .i64 0] 37) = w1 at *
    go_wp2_with (go_at_call 45; refine HC.out.mono ?_; rintro e2 w2 ⟨X, rfl, hX, hone, hu, ho⟩; have hr := ans_row H0.out HR.out (Nat.le_succ _) hu; have hst := ans_st hr hX hone; have HLD := Lib.hid (ans_ldV hr hX); have HP := Lib.hid (HOK.out.put (C := X) H0.out HB.out hu ho (Nat.le_succ _) HLT.out); have HX := Lib.hid (And.intro hX hone); clear hr hX hone hu ho; generalize w2.setRow (w.heap.size + 1) X = w3 at *)
    exact bodyPost_ret (v := .agg X) (by rw [results_cell1 rfl]; simp [asAddr, Result.andThen, HLD.out]) rfl ⟨X, rfl, HX.out.1, HX.out.2, HP.out.1, HP.out.2⟩
set_option maxRecDepth 100000 in
set_option maxHeartbeats 1000000 in
theorem doP26_is {K : Nat} {q : Int} (ok : OutOk w0 Out) {num : Int} (hn : num = 26) (hA : A.size = 7) (ha : A[0]? = some (.int .i64 num)) (hs : Spec w0 Out 47 #[.pointer (some ⟨K, 0, none⟩), .int .i64 q, .agg A]) :
    Spec w0 Out 24 #[.pointer (some ⟨K, 0, none⟩), .int .i64 q, .agg A] := by
  intro w h0
  have hb1 := Go.Joins.below_alloc1 w (.cells A 40)
  have hal : Below w.heap.size w ((w.alloc (.cells A 40)).alloc (.cells ansZ 37)) := hb1.trans ((Go.Joins.below_alloc1 _ _).mono hb1.size)
  have hr1 := (row_new w 40 A).alloc (.cells ansZ 37)
  have hr2 := row_new (w.alloc (.cells A 40)) 37 ansZ
  rw [size_alloc1] at hr2
  have d0 : ((w.alloc (.cells A 40)).alloc (.cells ansZ 37)).cell? ⟨w.heap.size, 0, none⟩ = some (.int .i64 num) := by rw [hr1.cell, ha]
  have l2 := ld_callR hr1 hA
  have HR : Hid (Row ((w.alloc (.cells A 40)).alloc (.cells #[.int .i64 0, .int .i64 0, .int .i64 0, .slice none 0 0, .slice none 0 0, .int .i64 0, .int .i64 0, .int .i64 0, .int .i64 0, .int .i64 0, .int .i64 0] 37)) (w.heap.size + 1) 37 ansZ) := Lib.hid hr2
  have HB := Lib.hid hal
  have HC := Lib.hid (hs _ (h0.trans (hal.mono h0.size)))
  have HOK := Lib.hid ok
  have H0 := Lib.hid h0
  have HLT := Lib.hid hr2.lt
  clear hal hr1 hr2 hA hs ok h0 ha hb1
  have hz : ansZ = #[.int .i64 0, .int .i64 0, .int .i64 0, .slice none 0 0, .slice none 0 0, .int .i64 0, .int .i64 0, .int .i64 0, .int .i64 0, .int .i64 0, .int .i64 0] := rfl
  rw [hz] at d0 l2 HB HC HLT
  subst hn
  all_goals
    go_enter Tryz.func24, Tryz.ntmps24
    go_upto_region 1 with fail
    generalize (w.alloc (.cells A 40)).alloc (.cells #[.int .i64 0, .int .i64 0, .int .i64 0, .slice none 0 0, .slice none 0 0, .int .i64 0, .int .i64 0, .int .i64 0, .int .i64 0, .int .i64 0, .int .i64 0] 37) = w1 at *
    go_wp2_with (go_at_call 47; refine HC.out.mono ?_; rintro e2 w2 ⟨X, rfl, hX, hone, hu, ho⟩; have hr := ans_row H0.out HR.out (Nat.le_succ _) hu; have hst := ans_st hr hX hone; have HLD := Lib.hid (ans_ldV hr hX); have HP := Lib.hid (HOK.out.put (C := X) H0.out HB.out hu ho (Nat.le_succ _) HLT.out); have HX := Lib.hid (And.intro hX hone); clear hr hX hone hu ho; generalize w2.setRow (w.heap.size + 1) X = w3 at *)
    exact bodyPost_ret (v := .agg X) (by rw [results_cell1 rfl]; simp [asAddr, Result.andThen, HLD.out]) rfl ⟨X, rfl, HX.out.1, HX.out.2, HP.out.1, HP.out.2⟩
end
end Go.Proofs.YtcdjkheelbikjaaGreatDoor
namespace Go.Proofs.YtcdjkheelbikjaaGreatDoor
open Go.RowKit
set_option linter.unusedVariables false
set_option linter.unusedSimpArgs false
def entC (t : ProcLaw.T) (j : Nat) : Value := if j % 4 = 0 then .int .i64 (t (j / 4)).st else if j % 4 = 1 then .int .i64 (t (j / 4)).par else if j % 4 = 2 then .int .i64 (t (j / 4)).gr else .int .i64 (t (j / 4)).code
def entA (e : ProcLaw.E) : Array Value := #[.int .i64 e.st, .int .i64 e.par, .int .i64 e.gr, .int .i64 e.code]
def tabA (t : ProcLaw.T) : Array Value := Array.ofFn (n := 68) (fun j => entC t j.val)
theorem ld_ents (v : Value) : Instr.loadAt 114 v = ldR 114 v := rfl
theorem tab_ld {w : World} {b : Nat} {t : ProcLaw.T} (h : ProcLaw.TabAt w b t) : (ldR 114 (.pointer (some ⟨b, 0, none⟩))).run Tryz.prog w = .ok (.agg (tabA t)) w := by
  have hr : w.rangeAt b 0 (tabA t).toList := by
    intro j v hj
    rw [Array.getElem?_toList] at hj
    have hlt : j < 68 := by have := (Array.getElem?_eq_some_iff.1 hj).1; simpa [tabA] using this
    have : v = entC t j := by
      simp [tabA, hlt] at hj
      exact hj.symm
    subst this
    rw [Nat.zero_add]
    unfold entC
    have hk : j / 4 < 17 := by omega
    by_cases e0 : j % 4 = 0
    · rw [if_pos e0]
      have := h.st _ hk
      rwa [show j / 4 * 4 = j by omega] at this
    by_cases e1 : j % 4 = 1
    · rw [if_neg e0, if_pos e1]
      have := h.par _ hk
      rwa [show j / 4 * 4 + 1 = j by omega] at this
    by_cases e2 : j % 4 = 2
    · rw [if_neg e0, if_neg e1, if_pos e2]
      have := h.gr _ hk
      rwa [show j / 4 * 4 + 2 = j by omega] at this
    · rw [if_neg e0, if_neg e1, if_neg e2]
      have := h.code _ hk
      rwa [show j / 4 * 4 + 3 = j by omega] at this
  have := run_loadAt_mid (P := Tryz.prog) w b 0 114 _ _ hr Tryz.underlying114 rfl (by rw [show (tabA t).toList.length = 68 by simp [tabA]]; kernel_rfl)
  rw [Array.toArray_toList] at this
  exact this
theorem tab_ix (w : World) (t : ProcLaw.T) {k : Nat} (hk : k < 17) : (Instr.index 114 (.agg (tabA t)) (.int .i64 k)).run Tryz.prog w = .ok (.agg (entA (t k))) w := by
  have h1 : (k : Int) < 17 := by omega
  have he : (tabA t).extract (k * 4) (k * 4 + 4) = entA (t k) := by
    apply Array.ext
    · simp [tabA, entA]; omega
    · intro i h1 h2
      have hi : i < 4 := by simpa [entA] using h2
      have e4 : (k * 4 + i) / 4 = k := by omega
      have e5 : (k * 4 + i) % 4 = i := by omega
      simp only [Array.getElem_extract, tabA, Array.getElem_ofFn, entC, e4, e5, entA]
      have : i = 0 ∨ i = 1 ∨ i = 2 ∨ i = 3 := by omega
      rcases this with rfl | rfl | rfl | rfl <;> rfl
  have hp : (part 113 (tabA t) (k * 4)).run Tryz.prog w = .ok (.agg ((tabA t).extract (k * 4) (k * 4 + 4))) w := by kernel_rfl
  have hs : (sizeOf 113).run Tryz.prog w = .ok 4 w := by kernel_rfl
  rw [he] at hp
  simp [Instr.index, asIntOf, run_underlying Tryz.underlying114, h1, hk, hp, hs, he, go_sem]
section
variable {w : World} {b : Nat} {t : ProcLaw.T} {k : KC} {s : KSt}
attribute [local go_sem ↓] ld_ents apI8_eq
set_option maxRecDepth 100000 in
set_option maxHeartbeats 1000000 in
theorem allP_is (h : ProcLaw.TabAt w b t) (h1 : (t 1).st = 1) (hz : ∀ j, j < 17 → j ≠ 1 → (t j).st ≠ 1) : Calls Tryz.prog 25 #[.pointer (some ⟨b, 0, none⟩)] w fun e w' => ∃ g cp, e = .returned (.slice (some ⟨g, 0, none⟩) 1 cp) ∧ w'.ownsRow w.heap.size 3 1 (.slice (some ⟨g, 0, none⟩) 1 cp) 1 [.int .i64 1] ∧ Below w.heap.size w w' := by
  have hl := tab_ld h
  have HX := Lib.hid (fun w (k : Nat) hk => tab_ix (k := k) w t hk)
  have HZ := Lib.hid hz
  have H1 := Lib.hid h1
  clear h hz h1
  generalize tabA t = C at *
  go_enter Tryz.func25, Tryz.ntmps25
  go_wp2_with fail
  go_loopw [3, 10] (fun sv iv wr => ∃ (j : Nat) (v : Value), j ≤ 17 ∧ iv = .int .i64 j ∧ v = sv ∧ Hid ((j ≤ 1 ∧ v = .slice none 0 0) ∨ (2 ≤ j ∧ ∃ g cp, v = .slice (some ⟨g, 0, none⟩) 1 cp ∧ wr.ownsRow w.heap.size 3 1 (.slice (some ⟨g, 0, none⟩) 1 cp) 1 [.int .i64 1])) ∧ Hid (Below w.heap.size w wr)) (fun _ iv _ => 17 - (intOf iv).toNat)
  case atStart => exact ⟨0, _, by omega, rfl, rfl, Lib.hid (.inl ⟨by omega, rfl⟩), Lib.hid (Below.refl _ _)⟩
  case round =>
    obtain ⟨j, x3, hj, rfl, rfl, HS, HB⟩ := hrel
    by_cases hlt : j < 17
    · have hji : (j : Int) < 17 := by omega
      have hx := fun w => HX.out w j hlt
      have HB1 := Lib.hid (HB.out.trans ((Go.Joins.below_alloc1 wr (.cells (entA (t j)) 113)).mono HB.out.size))
      unfold entA at hx HB1
      by_cases e : j = 1
      · have h1 : (t j).st = 1 := by rw [e]; exact H1.out
        rcases HS.out with ⟨_, rfl⟩ | ⟨h2, _⟩
        · obtain ⟨v3, w3, hap, ho3, -, hb3⟩ := apI_push (w := wr.alloc (.cells #[.int .i64 (t j).st, .int .i64 (t j).par, .int .i64 (t j).gr, .int .i64 (t j).code] 113)) (B := w.heap.size) (v := .slice none 0 0) (l := []) (World.ownsRow_nil _ _ _ _) HB1.out.size (j : Int) (by decide)
          obtain ⟨p3, cp, rfl⟩ := own_form ho3
          obtain ⟨g, rfl, -, -, -, -⟩ := own_block ho3 (by simp)
          have hap : (apI8 #[.slice none 0 0, .slice (some ⟨wr.heap.size + 1, 0, none⟩) 1 1]).run Tryz.prog ((wr.alloc (.cells #[.int .i64 (t j).st, .int .i64 (t j).par, .int .i64 (t j).gr, .int .i64 (t j).code] 113)).alloc (.cells #[.int .i64 j] 3)) = .ok (.slice (some ⟨g, 0, none⟩) 1 cp) w3 := by
            have := hap
            rw [size_alloc1] at this
            exact this
          have hd : ((t j).st == 1) = true := by simp [h1]
          have hg1 : w3.ownsRow w.heap.size 3 1 (.slice (some ⟨g, 0, none⟩) 1 cp) 1 [.int .i64 1] := by
            have h := ho3
            rw [e] at h
            exact h
          have HN := Lib.hid hg1
          have HB3 := Lib.hid (HB1.out.trans hb3)
          have HE := Lib.hid e
          clear h1 ho3 hb3 HS hg1 e
          go_wp2_with fail
          go_roundw
          case rel => exact ⟨j + 1, _, by omega, by go_num, rfl, Lib.hid (.inr ⟨by have := HE.out; omega, g, cp, rfl, HN.out⟩), HB3⟩
          case measure => simp [intOf]; omega
        · omega
      · have hn := HZ.out j hlt e
        have hd : ((t j).st == 1) = false := by simp [hn]
        have HS1 : Hid ((j + 1 ≤ 1 ∧ x3 = Value.slice none 0 0) ∨ (2 ≤ j + 1 ∧ ∃ g cp, x3 = Value.slice (some ⟨g, 0, none⟩) 1 cp ∧ (wr.alloc (.cells #[.int .i64 (t j).st, .int .i64 (t j).par, .int .i64 (t j).gr, .int .i64 (t j).code] 113)).ownsRow w.heap.size 3 1 (.slice (some ⟨g, 0, none⟩) 1 cp) 1 [.int .i64 1])) := Lib.hid (by
          rcases HS.out with ⟨q, e0⟩ | ⟨q, g, cp, e0, hc⟩
          · exact .inl ⟨by omega, e0⟩
          · exact .inr ⟨by omega, g, cp, e0, owns_keep hc (Go.Joins.below_alloc1 _ _)⟩)
        clear hn HS
        go_wp2_with fail
        go_roundw
        case rel => exact ⟨j + 1, _, by omega, by go_num, rfl, HS1, HB1⟩
        case measure => simp [intOf]; omega
    · obtain rfl : j = 17 := by omega
      rcases HS.out with ⟨q, _⟩ | ⟨_, g, cp, rfl, hc⟩
      · omega
      · have HC := Lib.hid hc
        clear hc
        go_wp2_with fail
        go_ret
        exact ⟨g, cp, rfl, HC.out, HB.out⟩
end
end Go.Proofs.YtcdjkheelbikjaaGreatDoor
namespace Go.Proofs.YtcdjkheelbikjaaGreatDoor
open Go.RowKit Go.Maps
set_option linter.unusedVariables false
set_option linter.unusedSimpArgs false
theorem mkS2 (w : World) : (mkS (.int .i64 2) (.int .i64 2)).run Tryz.prog w = .ok (.slice (some ⟨w.heap.size, 0, none⟩) 2 2) (w.alloc (.cells #[.string ⟨#[]⟩, .string ⟨#[]⟩] 9)) := by kernel_rfl
set_option maxRecDepth 100000 in
set_option maxHeartbeats 400000 in
theorem sidzS_is (w : World) : Calls Tryz.prog 320 #[.string ⟨#[47, 102]⟩, .string ⟨#[47]⟩] w fun e w' => e = .returned (.int .i64 0) ∧ w = w' := by
  have hi : (Instr.index 9 (.string ⟨#[47]⟩) (.int .i64 0)).run Tryz.prog w = .ok (.int .u8 47) w := by kernel_rfl
  have hn : Lib.indexByte (⟨#[47, 102]⟩ : ByteArray).data.toList (47 : Int).toNat.toUInt8 = 0 := by decide
  have H : Hid (∀ w, Calls Tryz.prog 321 #[.string ⟨#[47, 102]⟩, .int .u8 47] w fun e w' => e = .returned (.int .i64 0) ∧ w = w') := Lib.hid (fun w => by have := ixb0_is ⟨#[47, 102]⟩ 47 w; rw [hn] at this; exact this)
  go_enter Tryz.func320, Tryz.ntmps320
  go_wp2_with (go_at_call 321; (with_reducible refine (H.out _).mono ?_); rintro e1 w1 ⟨rfl, rfl⟩)
  go_ret
  exact ⟨rfl, rfl⟩
set_option maxRecDepth 100000 in
set_option maxHeartbeats 400000 in
theorem sidxS_is (w : World) : Calls Tryz.prog 272 #[.string ⟨#[47, 102]⟩, .string ⟨#[47]⟩] w fun e w' => e = .returned (.int .i64 0) ∧ w = w' := by
  have H := Lib.hid (sidzS_is w)
  go_enter Tryz.func272, Tryz.ntmps272
  go_wp2_with (go_at_call 320; (with_reducible refine H.out.mono ?_); rintro e1 w1 ⟨rfl, rfl⟩)
  go_ret
  exact ⟨rfl, rfl⟩
section
attribute [local go_sem ↓] mkS_eq ixS_eq slS_eq
set_option maxRecDepth 100000 in
set_option maxHeartbeats 800000 in
theorem gsplitS_is (w : World) : Calls Tryz.prog 208 #[.string ⟨#[47, 102]⟩, .string ⟨#[47]⟩, .int .i64 0, .int .i64 (-1)] w fun e w' => ∃ g, e = .returned (.slice (some ⟨g, 0, none⟩) 2 2) ∧ w.heap.size ≤ g ∧ Row w' g 9 #[.string ⟨#[]⟩, .string ⟨#[102]⟩] ∧ Below w.heap.size w w' := by
  have HC := Lib.hid (count1_is w ⟨#[47, 102]⟩)
  have e0 : Lib.countByte (⟨#[47, 102]⟩ : ByteArray).data.toList 47 = 1 := by decide
  rw [e0] at HC
  have HI := Lib.hid sidxS_is
  have hm := mkS2 w
  have hs1 : ∀ w, (slS (.string ⟨#[47, 102]⟩) none (some (.int .i64 0)) none).run Tryz.prog w = .ok (.string ⟨#[]⟩) w := fun w => by kernel_rfl
  have hs2 : ∀ w, (slS (.string ⟨#[47, 102]⟩) (some (.int .i64 1)) none none).run Tryz.prog w = .ok (.string ⟨#[102]⟩) w := fun w => by kernel_rfl
  have hr := row_new w 9 #[.string ⟨#[]⟩, .string ⟨#[]⟩]
  have y0 := hr.cell 0
  have z0 := hr.fz 0
  have y1 := hr.cell 1
  have z1 := hr.fz 1
  have HR := Lib.hid hr
  have HB := Lib.hid (Go.Joins.below_alloc1 w (.cells #[.string ⟨#[]⟩, .string ⟨#[]⟩] 9))
  clear hr
  go_enter Tryz.func208, Tryz.ntmps208
  go_upto_region 8 with (go_at_call 271; (with_reducible refine HC.out.mono ?_); rintro e1 w1 ⟨rfl, rfl⟩)
  go_upto_region 9 with fail
  generalize w.alloc (.cells #[.string ⟨#[]⟩, .string ⟨#[]⟩] 9) = w2 at *
  obtain ⟨z, hz⟩ : ∃ z, z = w.heap.size := ⟨_, rfl⟩
  rw [← hz] at y0 z0 y1 z1 HR ⊢
  have HZ := Lib.hid hz
  clear hz hm
  go_wp2_with fail
  refine wp_loop_rounds 2 ?_
  rw [rounds_succ]
  go_upto_region 14 with (go_at_call 272; (with_reducible refine (HI.out _).mono ?_); rintro e2 w3 ⟨rfl, rfl⟩)
  go_upto_region 15 with fail
  have HR3 : Hid (Row (w2.setCell ⟨z, 0, none⟩ (.string ⟨#[]⟩)) z 9 #[.string ⟨#[]⟩, .string ⟨#[]⟩]) := Lib.hid (by
    rw [HR.out.setCell]
    exact HR.out.setRow _)
  have HB3 := Lib.hid (HB.out.trans ((Upd.set (S := fun j => j = z) w2 (b := z) (i := 0) (.string ⟨#[]⟩) rfl).toBelow HB.out.size (fun k hk e => by have e : k = z := e; have := HZ.out; omega)))
  generalize w2.setCell ⟨z, 0, none⟩ (.string ⟨#[]⟩) = w3 at *
  clear y0 z0 y1 z1
  have y1 := HR3.out.cell 1
  have z1 := HR3.out.fz 1
  go_wp2_with fail
  rw [rounds_succ]
  go_wp2_with fail
  go_ret
  refine ⟨z, rfl, Nat.le_of_eq HZ.out.symm, ?_, HB3.out.trans ((Upd.set (S := fun j => j = z) w3 (b := z) (i := 1) (.string ⟨#[102]⟩) rfl).toBelow HB3.out.size (fun k hk e => by have e : k = z := e; have := HZ.out; omega))⟩
  rw [HR3.out.setCell]
  exact HR3.out.setRow _
end
section
set_option maxRecDepth 100000 in
set_option maxHeartbeats 800000 in
theorem ssplitS_is (w : World) : Calls Tryz.prog 130 #[.string ⟨#[47, 102]⟩, .string ⟨#[47]⟩] w fun e w' => ∃ g, e = .returned (.slice (some ⟨g, 0, none⟩) 2 2) ∧ w.heap.size ≤ g ∧ Row w' g 9 #[.string ⟨#[]⟩, .string ⟨#[102]⟩] ∧ Below w.heap.size w w' := by
  have HG := Lib.hid (gsplitS_is w)
  go_enter Tryz.func130, Tryz.ntmps130
  go_wp2_with (go_at_call 208; (with_reducible refine HG.out.mono ?_); rintro e1 w1 ⟨g, rfl, h⟩)
  go_ret
  exact ⟨g, rfl, h⟩
end
set_option maxRecDepth 100000 in
set_option maxHeartbeats 400000 in
theorem sidzR_is (w : World) : Calls Tryz.prog 320 #[.string ⟨#[47]⟩, .string ⟨#[47]⟩] w fun e w' => e = .returned (.int .i64 0) ∧ w = w' := by
  have hi : (Instr.index 9 (.string ⟨#[47]⟩) (.int .i64 0)).run Tryz.prog w = .ok (.int .u8 47) w := by kernel_rfl
  have hn : Lib.indexByte (⟨#[47]⟩ : ByteArray).data.toList (47 : Int).toNat.toUInt8 = 0 := by decide
  have H : Hid (∀ w, Calls Tryz.prog 321 #[.string ⟨#[47]⟩, .int .u8 47] w fun e w' => e = .returned (.int .i64 0) ∧ w = w') := Lib.hid (fun w => by have := ixb0_is ⟨#[47]⟩ 47 w; rw [hn] at this; exact this)
  go_enter Tryz.func320, Tryz.ntmps320
  go_wp2_with (go_at_call 321; (with_reducible refine (H.out _).mono ?_); rintro e1 w1 ⟨rfl, rfl⟩)
  go_ret
  exact ⟨rfl, rfl⟩
set_option maxRecDepth 100000 in
set_option maxHeartbeats 400000 in
theorem sidxR_is (w : World) : Calls Tryz.prog 272 #[.string ⟨#[47]⟩, .string ⟨#[47]⟩] w fun e w' => e = .returned (.int .i64 0) ∧ w = w' := by
  have H := Lib.hid (sidzR_is w)
  go_enter Tryz.func272, Tryz.ntmps272
  go_wp2_with (go_at_call 320; (with_reducible refine H.out.mono ?_); rintro e1 w1 ⟨rfl, rfl⟩)
  go_ret
  exact ⟨rfl, rfl⟩
section
attribute [local go_sem ↓] mkS_eq ixS_eq slS_eq
set_option maxRecDepth 100000 in
set_option maxHeartbeats 800000 in
theorem gsplitR_is (w : World) : Calls Tryz.prog 208 #[.string ⟨#[47]⟩, .string ⟨#[47]⟩, .int .i64 0, .int .i64 (-1)] w fun e w' => ∃ g, e = .returned (.slice (some ⟨g, 0, none⟩) 2 2) ∧ w.heap.size ≤ g ∧ Row w' g 9 #[.string ⟨#[]⟩, .string ⟨#[]⟩] ∧ Below w.heap.size w w' := by
  have HC := Lib.hid (count1_is w ⟨#[47]⟩)
  have e0 : Lib.countByte (⟨#[47]⟩ : ByteArray).data.toList 47 = 1 := by decide
  rw [e0] at HC
  have HI := Lib.hid sidxR_is
  have hm := mkS2 w
  have hs1 : ∀ w, (slS (.string ⟨#[47]⟩) none (some (.int .i64 0)) none).run Tryz.prog w = .ok (.string ⟨#[]⟩) w := fun w => by kernel_rfl
  have hs2 : ∀ w, (slS (.string ⟨#[47]⟩) (some (.int .i64 1)) none none).run Tryz.prog w = .ok (.string ⟨#[]⟩) w := fun w => by kernel_rfl
  have hr := row_new w 9 #[.string ⟨#[]⟩, .string ⟨#[]⟩]
  have y0 := hr.cell 0
  have z0 := hr.fz 0
  have y1 := hr.cell 1
  have z1 := hr.fz 1
  have HR := Lib.hid hr
  have HB := Lib.hid (Go.Joins.below_alloc1 w (.cells #[.string ⟨#[]⟩, .string ⟨#[]⟩] 9))
  clear hr
  go_enter Tryz.func208, Tryz.ntmps208
  go_upto_region 8 with (go_at_call 271; (with_reducible refine HC.out.mono ?_); rintro e1 w1 ⟨rfl, rfl⟩)
  go_upto_region 9 with fail
  generalize w.alloc (.cells #[.string ⟨#[]⟩, .string ⟨#[]⟩] 9) = w2 at *
  obtain ⟨z, hz⟩ : ∃ z, z = w.heap.size := ⟨_, rfl⟩
  rw [← hz] at y0 z0 y1 z1 HR ⊢
  have HZ := Lib.hid hz
  clear hz hm
  go_wp2_with fail
  refine wp_loop_rounds 2 ?_
  rw [rounds_succ]
  go_upto_region 14 with (go_at_call 272; (with_reducible refine (HI.out _).mono ?_); rintro e2 w3 ⟨rfl, rfl⟩)
  go_upto_region 15 with fail
  have HR3 : Hid (Row (w2.setCell ⟨z, 0, none⟩ (.string ⟨#[]⟩)) z 9 #[.string ⟨#[]⟩, .string ⟨#[]⟩]) := Lib.hid (by
    rw [HR.out.setCell]
    exact HR.out.setRow _)
  have HB3 := Lib.hid (HB.out.trans ((Upd.set (S := fun j => j = z) w2 (b := z) (i := 0) (.string ⟨#[]⟩) rfl).toBelow HB.out.size (fun k hk e => by have e : k = z := e; have := HZ.out; omega)))
  generalize w2.setCell ⟨z, 0, none⟩ (.string ⟨#[]⟩) = w3 at *
  clear y0 z0 y1 z1
  have y1 := HR3.out.cell 1
  have z1 := HR3.out.fz 1
  go_wp2_with fail
  rw [rounds_succ]
  go_wp2_with fail
  go_ret
  refine ⟨z, rfl, Nat.le_of_eq HZ.out.symm, ?_, HB3.out.trans ((Upd.set (S := fun j => j = z) w3 (b := z) (i := 1) (.string ⟨#[]⟩) rfl).toBelow HB3.out.size (fun k hk e => by have e : k = z := e; have := HZ.out; omega))⟩
  rw [HR3.out.setCell]
  exact HR3.out.setRow _
end
section
set_option maxRecDepth 100000 in
set_option maxHeartbeats 800000 in
theorem ssplitR_is (w : World) : Calls Tryz.prog 130 #[.string ⟨#[47]⟩, .string ⟨#[47]⟩] w fun e w' => ∃ g, e = .returned (.slice (some ⟨g, 0, none⟩) 2 2) ∧ w.heap.size ≤ g ∧ Row w' g 9 #[.string ⟨#[]⟩, .string ⟨#[]⟩] ∧ Below w.heap.size w w' := by
  have HG := Lib.hid (gsplitR_is w)
  go_enter Tryz.func130, Tryz.ntmps130
  go_wp2_with (go_at_call 208; (with_reducible refine HG.out.mono ?_); rintro e1 w1 ⟨g, rfl, h⟩)
  go_ret
  exact ⟨g, rfl, h⟩
end
section
attribute [local go_sem ↓] apS_eq
set_option maxRecDepth 100000 in
set_option maxHeartbeats 800000 in
theorem psplitS_is (w : World) : Calls Tryz.prog 65 #[.string ⟨#[47, 102]⟩] w fun e w' => ∃ g c, e = .returned (.tuple #[.bool true, .slice (some ⟨g, 0, none⟩) 1 c, .int .i64 0]) ∧ w.heap.size ≤ g ∧ w'.cell? ⟨g, 0, none⟩ = some (.string ⟨#[102]⟩) ∧ 1 ≤ c ∧ c ≤ maxLen ∧ Below w.heap.size w w' := by
  have HG := Lib.hid (ssplitS_is w)
  have hi : ∀ w, (Instr.index 9 (.string ⟨#[47, 102]⟩) (.int .i64 0)).run Tryz.prog w = .ok (.int .u8 47) w := fun w => by kernel_rfl
  go_enter Tryz.func65, Tryz.ntmps65
  go_wp2_with (go_at_call 130; (with_reducible refine HG.out.mono ?_); rintro e1 w1 ⟨g, rfl, hg, hr, hb1⟩; have y0 := hr.cell 0; have y1 := hr.cell 1; have HB1 := Lib.hid hb1; clear hr hb1 hg)
  refine wp_loop_rounds 3 ?_
  rw [rounds_succ]
  go_wp2_with fail
  rw [rounds_succ]
  obtain ⟨g2, c2, w2, hap, hg2, hc2, h1, h2, hb2⟩ := pushS w1 ⟨#[102]⟩
  have hcm : (c2 : Int) ≤ 9223372036854775807 := by unfold maxLen at h2; omega
  have HF := Lib.hid (And.intro (Nat.le_trans HB1.out.size hg2) (And.intro hc2 (And.intro h1 (And.intro h2 (HB1.out.trans (hb2.mono HB1.out.size))))))
  clear hg2 hc2 h1 h2 hb2
  go_wp2_with fail
  rw [rounds_succ]
  have hi2 := hi w2
  go_wp2_with fail
  first | go_ret3 | go_ret
  exact ⟨g2, c2, rfl, HF.out⟩
set_option maxRecDepth 100000 in
set_option maxHeartbeats 800000 in
theorem psplitR_is (w : World) : Calls Tryz.prog 65 #[.string ⟨#[47]⟩] w fun e w' => e = .returned (.tuple #[.bool true, .slice none 0 0, .int .i64 0]) ∧ Below w.heap.size w w' := by
  have HG := Lib.hid (ssplitR_is w)
  have hi : ∀ w, (Instr.index 9 (.string ⟨#[47]⟩) (.int .i64 0)).run Tryz.prog w = .ok (.int .u8 47) w := fun w => by kernel_rfl
  go_enter Tryz.func65, Tryz.ntmps65
  go_wp2_with (go_at_call 130; (with_reducible refine HG.out.mono ?_); rintro e1 w1 ⟨g, rfl, hg, hr, hb1⟩; have y0 := hr.cell 0; have y1 := hr.cell 1; have HB1 := Lib.hid hb1; clear hr hb1 hg)
  refine wp_loop_rounds 3 ?_
  rw [rounds_succ]
  go_wp2_with fail
  rw [rounds_succ]
  go_wp2_with fail
  rw [rounds_succ]
  have hi2 := hi w1
  go_wp2_with fail
  first | go_ret3 | go_ret
  exact ⟨rfl, HB1.out⟩
end
end Go.Proofs.YtcdjkheelbikjaaGreatDoor
