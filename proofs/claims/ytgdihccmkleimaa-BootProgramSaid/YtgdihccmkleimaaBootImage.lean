/- The walk of load.Image, on a file that File wrote. -/
import Derived.Test.YtgdihccmkleimaaBootFile
namespace Go.Proofs.Ytgdihccmkleimaa.BootLaw
open Go.RowKit
set_option linter.unusedVariables false
set_option linter.unusedSimpArgs false
theorem ti_push2 {W0 W9 w6 w7 : World} {n3 n5 e i : Nat} {vo p6v v7 : Value} {ps : List Pg} {qs : List (Pg × Value)} {pg rt : Int} {dl : List Int} {o : Obj} (hT : TI W0 W9 n3 e vo (trims (ps.take i))) (hq1 : qs.map Prod.fst = trims (ps.take i)) (hq2 : W9.ownsRow (n3 + 1) 96 3 vo qs.length (cellsQ qs)) (hq3 : ∀ q ∈ qs, W9.ownsRow (n3 + 1) 5 1 q.2 q.1.da.length (q.1.da.map u8V) ∧ Apart vo q.2)
    (ho6 : w6.ownsRow W9.heap.size 5 1 p6v (trimD dl).length ((trimD dl).map u8V)) (hbb : Below W9.heap.size W9 w6) (ha6 : Below W9.heap.size W9 (w6.alloc o)) (hsu : trims (ps.take (i + 1)) = trims (ps.take i) ++ [trimP ⟨pg, rt, dl⟩]) (hvl : ∀ g, vo.ownBlock = some g → g < n5) (hn5 : n5 ≤ W9.heap.size)
    (own7 : w7.ownsRow (n3 + 1) 96 3 v7 (qs.length + 1) (cellsQ qs ++ [.int .i64 pg, .int .i64 rt, p6v])) (grow7 : (w6.alloc o).grownBy w7 vo.ownBlock) (fresh7 : v7.ownBlock = vo.ownBlock ∨ ∃ g, (w6.alloc o).heap.size ≤ g ∧ v7.ownBlock = some g) :
    TI W0 (w7.setCell ⟨n3, 1, none⟩ v7) n3 e v7 (trims (ps.take (i + 1))) := by
  have hv3 : some n3 ≠ vo.ownBlock := far_row hq2 (Nat.lt_succ_self n3)
  have hsz := hbb.size
  have hlt := hT.lt
  have hz3 : w7.cell? ⟨n3, 1, none⟩ = some vo := (grow7.cell_far ⟨n3, 1, none⟩ (by show n3 < _; simp; omega) hv3).trans ((ha6.cell (p := ⟨n3, 1, none⟩) hlt).trans hT.c1)
  have hz0 : w7.cell? ⟨n3, 0, none⟩ = some (.int .u32 e) := (grow7.cell_far ⟨n3, 0, none⟩ (by show n3 < _; simp; omega) hv3).trans ((ha6.cell (p := ⟨n3, 0, none⟩) hlt).trans hT.c0)
  have hpush : PgO w7 (n3 + 1) v7 (trims (ps.take (i + 1))) := by
    rw [hsu]
    exact PgO.push (p := ⟨pg, rt, trimD dl⟩) hq1 (fun q hq => ⟨owns_keep (hq3 q hq).1 ha6, (hq3 q hq).2⟩) (owns_keep hq2 ha6) (owns_base (ho6.alloc _) (by omega)) (fun g hg hd => by have h1 := hvl g hg; have h2 := (ho6.lt g hd).1; omega) own7 grow7 fresh7
  have hbl : Below n3 W0 w7 := (hT.B.trans (ha6.mono (Nat.le_of_lt hlt))).grown grow7 (by simp; omega) (fun k hk => by have := (hq2.lt k hk).1; omega)
  have hlt7 : n3 < w7.heap.size := World.block_lt_of_cell? w7 _ hz3
  exact ⟨hbl.setCell (Nat.le_refl _) _, by simpa [World.setCell] using hlt7, by rw [World.cell?_setCell_other _ _ _ _ (by simp)]; exact hz0, by simp [go_sem, hz3], fun j => by rw [World.frozen?_setCell]; exact far_frozen ha6 hlt grow7 hv3 hT.fz j, hpush.other (Nat.lt_succ_self n3)⟩
def app86 := Builtin.append_ #[86, 86] 86
theorem app86_eq : Builtin.append_ #[86, 86] 86 = app86 := rfl
theorem take_trims (ps : List Pg) (i : Nat) : (trims ps).take i = trims (ps.take i) := by unfold trims; rw [List.map_take]
def ImagePost (e : Nat) (ps : List Pg) (w : World) (E : Ending) (w' : World) : Prop :=
  ∃ (v' : Value) (B : Nat), w.heap.size ≤ B ∧ E = .returned (.tuple #[.agg #[.int .u32 e, v'], .int .i64 0]) ∧ PgO w' B v' (trims ps) ∧ Below w.heap.size w w'
theorem file_len (e : Nat) (ps : List Pg) : (fileR e ps).length = (bodyR e ps).length + 4 := by unfold fileR; simp [fourR]
theorem body_len (e : Nat) (ps : List Pg) : (bodyR e ps).length = 8 + (encs (trims ps)).length := by unfold bodyR headR; simp [fourR]; omega
/-- a part of bytes -/
theorem BS.piece {w : World} {b off : Nat} {l r t : List Int} {k : Nat} (hlt : b < w.heap.size) (hc : ∀ i, i < l.length → w.cell? ⟨b, off + i, none⟩ = some (.int .u8 (l.getD i 0))) (hl : l = r ++ t) (hk : k = r.length) : ∀ i, i < t.length → w.cell? ⟨b, off + k + i, none⟩ = some (.int .u8 (t.getD i 0)) := by
  intro i hi
  subst hl hk
  have := hc (r.length + i) (by simp; omega)
  rw [← Nat.add_assoc] at this
  rw [this, List.getD_eq_getElem?_getD, List.getElem?_append_right (by omega), List.getD_eq_getElem?_getD]
  simp
theorem BS.front {w : World} {b off : Nat} {l r t : List Int} (hc : ∀ i, i < l.length → w.cell? ⟨b, off + i, none⟩ = some (.int .u8 (l.getD i 0))) (hl : l = r ++ t) : ∀ i, i < r.length → w.cell? ⟨b, off + i, none⟩ = some (.int .u8 (r.getD i 0)) := by
  intro i hi
  subst hl
  rw [hc i (by simp; omega), List.getD_eq_getElem?_getD, List.getElem?_append_left hi, List.getD_eq_getElem?_getD]
attribute [local go_sem ↓] app86_eq
set_option maxRecDepth 100000 in
set_option maxHeartbeats 1000000 in
theorem image_is {w : World} {v : Value} {e : Nat} {ps : List Pg} (he : e < 4294967296) (hR : Right e ps) (hby : ∀ i, i < ps.length → Byt (pAt ps i).da) (h512 : (fileR e ps).length ≤ 512) (h : BS w v (fileR e ps)) : Calls Try.prog 48 #[v] w (ImagePost e ps w) := by
  have h' := h
  obtain ⟨a, cap, rfl, hl, hm, hc⟩ := h'
  have hl64 : (ps.length : Int) ≤ 64 := by have := hR.len; omega
  have v64 : IntKind.i64.wrap (ps.length : Int) = (ps.length : Int) := IntWalk.i64_in _ (by omega)
  have hf4 := file_len e ps
  have hb8 := body_len e ps
  rcases hc with hc | ⟨b, off, rfl, hlt, hc⟩
  · rw [hc] at hf4; simp at hf4
  have H := Lib.hid h
  have HC := Lib.hid hc
  have HR := Lib.hid hR
  have HBY := Lib.hid hby
  have HX := Lib.hid h512
  clear h hc hR hby
  generalize hmm : (bodyR e ps).length = m at hf4 hb8
  generalize hnn : (fileR e ps).length = n at hl hf4 h512 ⊢
  have HNN := Lib.hid hnn
  have HMM := Lib.hid hmm
  have HB8 := Lib.hid hb8
  have hm8 : 8 ≤ m := by omega
  clear hnn hmm hb8
  have hmx : (cap : Int) ≤ 9223372036854775807 := by have : cap ≤ maxLen := hm; unfold maxLen at this; omega
  have z1 : IntKind.i64.wrap ((n : Int) - 4) = (m : Int) := by rw [IntWalk.i64_in _ (by omega)]; omega
  have z2 : ¬ ((m : Int) < 8) := by omega
  have z3 : ¬ ((512 : Int) < (n : Int)) := by omega
  have z4 : ¬ cap = m := by omega
  have z5 : (m : Int) ≤ (n : Int) := by omega
  have z6 : (m : Int) ≤ (cap : Int) := by omega
  have z7 : (3 : Int) ≤ (cap : Int) := by omega
  have z8 : (n : Int) ≤ (cap : Int) := by omega
  have z9 : n - m = 4 := by omega
  have hfl : ∀ x, x = m → (bodyR e ps).length = x := fun x hx => HMM.out.trans hx.symm
  have hbk : ∀ k, Below w.heap.size w ((w.alloc (.cells #[.int .u32 0, .slice none 0 0] 88)).drewN k) := fun k => below_drewN (Go.Joins.below_alloc1 _ _) k
  have hwd : ∀ k, Calls Try.prog 66 #[.slice (some ⟨b, off + m, none⟩) 4 (cap - m)] ((w.alloc (.cells #[.int .u32 0, .slice none 0 0] 88)).drewN k) fun E w' => E = .returned (.int .u32 (sumR (bodyR e ps))) ∧ ∃ j, w' = ((w.alloc (.cells #[.int .u32 0, .slice none 0 0] 88)).drewN k).drewN j := fun k => by
    have : BS w (.slice (some ⟨b, off + m, none⟩) 4 (cap - m)) (fourR (sumR (bodyR e ps))) := BS.part hlt (BS.piece hlt HC.out (show fileR e ps = bodyR e ps ++ fourR (sumR (bodyR e ps)) from rfl) HMM.out.symm) (by show 4 ≤ _; omega) (by omega)
    exact word_is (r := []) (this.keep (hbk k)) (by simp) (sumR_lt _)
  have hsm : ∀ k, Calls Try.prog 67 #[.slice (some ⟨b, off, none⟩) m cap] ((w.alloc (.cells #[.int .u32 0, .slice none 0 0] 88)).drewN k) fun E w' => E = .returned (.int .u32 (sumR (bodyR e ps))) ∧ w' = (w.alloc (.cells #[.int .u32 0, .slice none 0 0] 88)).drewN k := fun k => by
    have : BS w (.slice (some ⟨b, off, none⟩) (bodyR e ps).length cap) (bodyR e ps) := BS.part hlt (BS.front HC.out (show fileR e ps = bodyR e ps ++ fourR (sumR (bodyR e ps)) from rfl)) (by rw [HMM.out]; omega) hm
    rw [HMM.out] at this
    exact sum_is (this.keep (hbk k)) (body_byt HR.out HBY.out)
  have kst : ∀ k, (convert 24 9 (.slice (some ⟨b, off, none⟩) 3 cap)).run Try.prog ((w.alloc (.cells #[.int .u32 0, .slice none 0 0] 88)).drewN k) = .ok (.string ⟨#[82, 72, 49]⟩) ((w.alloc (.cells #[.int .u32 0, .slice none 0 0] 88)).drewN k) := fun k => by
    have : BS w (.slice (some ⟨b, off, none⟩) 3 cap) [82, 72, 49] := BS.part (l := [82, 72, 49]) hlt (BS.front (t := (ps.length : Int) :: (fourR e ++ encs (trims ps) ++ fourR (sumR (bodyR e ps)))) HC.out (by unfold fileR bodyR headR; simp)) (by show 3 ≤ _; omega) hm
    exact conv_str (this.keep (hbk k)) (by simp)
  have HWD := Lib.hid hwd
  have HSM := Lib.hid hsm
  have HF4 := Lib.hid hf4
  have HLT := Lib.hid hlt
  have HBK := Lib.hid hbk
  clear hwd hsm hfl hf4 hlt h512 hbk
  go_enter Try.func48, Try.ntmps48
  go_upto_region 2 with fail
  go_quiet (first | (go_at_call 66; refine Calls.quiet_of (HWD.out _)) | (go_at_call 67; refine Calls.quiet_of_same (HSM.out _)))
  have hB3 := HBK.out nq
  have hh3 : ((w.alloc (.cells #[.int .u32 0, .slice none 0 0] 88)).drewN nq).heap[w.heap.size]? = some (.cells #[.int .u32 0, .slice none 0 0] 88 (0, 0)) := heap_alloc_new w _
  have hs3 : w.heap.size < ((w.alloc (.cells #[.int .u32 0, .slice none 0 0] 88)).drewN nq).heap.size := by show _ < (w.alloc _).heap.size; simp
  clear kst HSM HWD HBK
  revert hB3 hh3 hs3
  generalize (w.alloc (.cells #[.int .u32 0, .slice none 0 0] 88)).drewN nq = w3
  intro hB3 hh3 hs3
  have hw4 : Calls Try.prog 66 #[.slice (some ⟨b, off + 4, none⟩) (n - 4) (cap - 4)] w3 fun E w' => E = .returned (.int .u32 e) ∧ ∃ j, w' = w3.drewN j := by
    have hl4 : fileR e ps = [82, 72, 49, (ps.length : Int)] ++ (fourR e ++ (encs (trims ps) ++ fourR (sumR (bodyR e ps)))) := by unfold fileR bodyR headR; simp
    have hn4 : n - 4 = (fourR e ++ (encs (trims ps) ++ fourR (sumR (bodyR e ps)))).length := by have := HNN.out; rw [hl4] at this; simp at this; simp; omega
    have : BS w (.slice (some ⟨b, off + 4, none⟩) (n - 4) (cap - 4)) (fourR e ++ (encs (trims ps) ++ fourR (sumR (bodyR e ps)))) := by
      rw [hn4]
      exact BS.part HLT.out (BS.piece HLT.out HC.out hl4 rfl) (by rw [← hn4]; have := HF4.out; omega) (by omega)
    exact word_is (this.keep hB3) rfl he
  have hx8 : BX w (.slice (some ⟨b, off + 8, none⟩) (m - 8) (cap - 8)) (encs (trims ps)) := by
    have hl8 : fileR e ps = headR e ps.length ++ (encs (trims ps) ++ fourR (sumR (bodyR e ps))) := by unfold fileR bodyR; simp
    have h8 : m - 8 = (encs (trims ps)).length := by have := HB8.out; omega
    exact ⟨b, off + 8, cap - 8, by rw [h8], by rw [← h8]; have := HF4.out; omega, by omega, HLT.out, BS.front (BS.piece HLT.out HC.out hl8 rfl) rfl⟩
  have hc3 : w3.cell? ⟨b, off + 3, none⟩ = some (.int .u8 (ps.length : Int)) := by
    have := HC.out 3 (by have := HNN.out; have := HF4.out; omega)
    rw [show (fileR e ps).getD 3 0 = (ps.length : Int) by unfold fileR bodyR headR; simp] at this
    exact (hB3.cell (p := ⟨b, off + 3, none⟩) HLT.out).trans this
  have HW4 := Lib.hid hw4
  have HX8 := Lib.hid hx8
  have HB3 := Lib.hid hB3
  have HH3 := Lib.hid hh3
  have HS3 := Lib.hid hs3
  have y1 : ¬ cap = 4 := by omega
  have y2 : ¬ cap = 8 := by omega
  have y3 : (4 : Int) ≤ (n : Int) := by have := HF4.out; omega
  have y4 : (8 : Int) ≤ (m : Int) := by omega
  have y5 : (3 : Int) < (n : Int) := by omega
  clear hw4 hx8 hB3 hh3 hs3
  go_upto_region 5 with (go_at_call 66; refine HW4.out.mono ?_; rintro e4 w4 ⟨rfl, k4, hk4⟩; have HK4 := Lib.hid hk4; clear hk4)
  have hb4 : Below w3.heap.size w3 w4 := by rw [HK4.out]; exact below_drewN (Below.refl _ _) k4
  have hs4 : w.heap.size < w4.heap.size := Nat.lt_of_lt_of_le HS3.out hb4.size
  have hb5 := Go.Joins.below_alloc1 w4 (.cells #[.int .u32 e, .slice none 0 0] 88)
  have hh5 : (w4.alloc (.cells #[.int .u32 e, .slice none 0 0] 88)).heap[w4.heap.size]? = some (.cells #[.int .u32 e, .slice none 0 0] 88 (0, 0)) := heap_alloc_new w4 _
  have hs5 : w4.heap.size < (w4.alloc (.cells #[.int .u32 e, .slice none 0 0] 88)).heap.size := by simp
  clear HW4 HK4
  revert hb5 hh5 hs5
  generalize w4.alloc (.cells #[.int .u32 e, .slice none 0 0] 88) = w5
  intro hb5 hh5 hs5
  have hb45 : Below w3.heap.size w3 w5 := hb4.trans (hb5.mono hb4.size)
  have hb35 : Below w.heap.size w w5 := HB3.out.trans (hb45.mono (Nat.le_of_lt HS3.out))
  have hc5 := (hb45.cell (p := ⟨b, off + 3, none⟩) (Nat.lt_trans HLT.out HS3.out)).trans hc3
  have hTI : TI w5 w5 w4.heap.size e (.slice none 0 0) (trims (ps.take 0)) := ⟨Below.refl _ _, hs5, by rw [cell_of_row _ _ _ _ _ _ hh5]; rfl, by rw [cell_of_row _ _ _ _ _ _ hh5]; rfl, fun j => by simp only [World.frozen?, hh5]; simp, by rw [List.take_zero]; exact PgO.nil _ _⟩
  have HTI := Lib.hid hTI
  have HB5 := Lib.hid hb35
  have HH5 := Lib.hid ((hb45.block w.heap.size HS3.out).trans HH3.out)
  have HN5 := Lib.hid hs5
  have HS4 := Lib.hid hs4
  clear hb4 hs4 hb5 hh5 hs5 hb45 hb35 hc3 hTI HB3 HH3
  go_upto_region 7 with fail
  go_loopw [6, 51] (fun rv iv wr => ∃ (i : Nat) (vo : Value), i ≤ ps.length ∧ iv = .int .i64 i ∧ Hid (BX w rv (encs ((trims ps).drop i))) ∧ Hid (TI w5 wr w4.heap.size e vo (trims (ps.take i)))) (fun _ iv _ => ps.length - (intOf iv).toNat)
  case atStart => exact ⟨0, _, Nat.zero_le _, rfl, HX8, HTI⟩
  case round =>
    obtain ⟨i, vo, hi, rfl, HBX, HT⟩ := hrel
    by_cases hil : i < ps.length
    · have hil' : i < (trims ps).length := by rw [trims_length]; exact hil
      have hok := HR.out.trims.all i hil'
      have e1 : (trims ps)[i] = pAt (trims ps) i := by unfold pAt; rw [List.getD_eq_getElem?_getD, List.getElem?_eq_getElem hil']; rfl
      have hdr : encs ((trims ps).drop i) = encP (pAt (trims ps) i) ++ encs ((trims ps).drop (i + 1)) := by rw [List.drop_eq_getElem_cons hil', encs_cons, e1]
      have htk := take_succ_trims hil
      have hbx := HBX.out
      rw [hdr] at hbx
      have HBH := Lib.hid hbx.behind
      rw [pAt_trims] at HBH
      have hpg := page_is (hbx.keep (HB5.out.trans (HT.out.B.mono (Nat.le_of_lt HS4.out)))) hok.len hok.lo hok.hi hok.r1 hok.r5
      rw [pAt_trims] at hpg
      have HPG := Lib.hid hpg
      have HTK := Lib.hid htk
      have hdi : (i : Int) < (ps.length : Int) := by omega
      clear hok e1 hdr htk hbx hpg HBX hil'
      generalize pAt ps i = p at *
      obtain ⟨pg, rt, dl⟩ := p
      dsimp only [trimP] at *
      go_upto_region 11 with (go_at_call 68; refine HPG.out.mono ?_; rintro e9 w9 ⟨d9, v9, rfl, ho9, ⟨hx9, hva⟩, hb9⟩; obtain ⟨a9, k9, rfl⟩ := own_form ho9; have HVA := Lib.hid hva; clear hva; obtain ⟨xb, xo, xc, rfl, hxl, hxm, hxlt, hxc⟩ := hx9)
      obtain ⟨qs, hq1, hq2, hq3⟩ := HT.out.O
      have hbA := hb9.alloc hb9.size (.cells #[.int .i64 pg, .int .i64 rt, .slice a9 (trimD dl).length k9] 96)
      have hh := heap_alloc_new w9 (.cells #[.int .i64 pg, .int .i64 rt, .slice a9 (trimD dl).length k9] 96)
      have q0 : (w9.alloc (.cells #[.int .i64 pg, .int .i64 rt, .slice a9 (trimD dl).length k9] 96)).cell? ⟨w9.heap.size, 0, none⟩ = some (.int .i64 pg) := by rw [cell_of_row _ _ _ _ _ _ hh]; rfl
      have q1 : (w9.alloc (.cells #[.int .i64 pg, .int .i64 rt, .slice a9 (trimD dl).length k9] 96)).cell? ⟨w9.heap.size, 1, none⟩ = some (.int .i64 rt) := by rw [cell_of_row _ _ _ _ _ _ hh]; rfl
      have q2 : (w9.alloc (.cells #[.int .i64 pg, .int .i64 rt, .slice a9 (trimD dl).length k9] 96)).cell? ⟨w9.heap.size, 2, none⟩ = some (.slice a9 (trimD dl).length k9) := by rw [cell_of_row _ _ _ _ _ _ hh]; rfl
      have ho10 := ho9.alloc (.cells #[.int .i64 pg, .int .i64 rt, .slice a9 (trimD dl).length k9] 96)
      clear hh
      revert hbA q0 q1 q2 ho10
      generalize w9.alloc (.cells #[.int .i64 pg, .int .i64 rt, .slice a9 (trimD dl).length k9] 96) = w10
      intro hbA q0 q1 q2 ho10
      have m1 := (hbA.cell (p := ⟨w4.heap.size, 1, none⟩) HT.out.lt).trans HT.out.c1
      have hqn : qs.length = i := by rw [← List.length_map (f := Prod.fst), hq1, trims_length, List.length_take]; omega
      have hb11 := hbA.alloc hbA.size (.cells #[.int .i64 pg, .int .i64 rt, .slice a9 (trimD dl).length k9] 96)
      obtain ⟨i0, hi96, hz0, hz1, hz2⟩ := info_parts info96
      obtain ⟨v12, w12, hap, own12, grow12, fresh12⟩ := run_append_fresh (P := Try.prog) (w10.alloc (.cells #[.int .i64 pg, .int .i64 rt, .slice a9 (trimD dl).length k9] 96)) (w4.heap.size + 1) 86 86 96 i0 (.agg #[.int .i64 0, .int .i64 0, .slice none 0 0]) 3 40 Try.underlying86 hi96 hz0 hz1 hz2 rfl (by decide) vo qs.length (cellsQ qs) (owns_keep hq2 hb11) ⟨w10.heap.size, 0, none⟩ 1 1 [.int .i64 pg, .int .i64 rt, .slice a9 (trimD dl).length k9] rfl (cells_new w10 [.int .i64 pg, .int .i64 rt, .slice a9 (trimD dl).length k9] 96) one3p (by unfold maxLen; omega) (by omega) (by have := HT.out.lt; have := hbA.size; simp; omega)
      rw [app86_eq] at hap
      obtain ⟨a12, k12, rfl⟩ := own_form own12
      have HTF := Lib.hid (ti_push2 HT.out hq1 hq2 hq3 (owns_base ho10 (Nat.le_succ _)) hbA hb11 HTK.out (fun g hg => (hq2.lt g hg).2) (Nat.le_refl _) own12 grow12 fresh12)
      have hv3 : some w4.heap.size ≠ vo.ownBlock := far_row hq2 (Nat.lt_succ_self _)
      have hf12 : ∀ j, w12.frozen? ⟨w4.heap.size, j, none⟩ = false := far_frozen hb11 HT.out.lt grow12 hv3 HT.out.fz
      have hm12 := (grow12.cell_far ⟨w4.heap.size, 1, none⟩ (Nat.lt_of_lt_of_le HT.out.lt hb11.size) hv3).trans ((hb11.cell (p := ⟨w4.heap.size, 1, none⟩) HT.out.lt).trans HT.out.c1)
      have HBN := Lib.hid (HBH.out)
      rw [← HVA.out] at HBN
      go_wp2_with fail
      go_roundw
      case rel =>
        have hTF := HTF.out
        rw [hqn] at hTF
        exact ⟨i + 1, .slice a12 (i + 1) k12, by omega, by go_num, HBN, Lib.hid hTF⟩
      case measure => simp [intOf]; omega
    · obtain rfl : i = ps.length := by omega
      have hT := HT.out
      rw [List.take_length] at hT
      obtain ⟨va, vc, rfl⟩ := hT.O.slice
      have hpg : PgS wr (.slice va (trims ps).length vc) (trims ps) := hT.O.read (fun i hi => (HR.out.trims.all i hi).len)
      have hfl := file_is he (fun i hi => by rw [pAt_trims]; exact (HBY.out i (by rw [trims_length] at hi; exact hi)).take _) hpg
      have HFL := Lib.hid hfl
      have HTT := Lib.hid hT
      have k0 := hT.c0
      have k1 := hT.c1
      clear hpg hfl hT HT HBX
      go_upto_region 14 with (go_at_call 65; refine HFL.out.mono ?_; rintro e9 w9 ⟨v9, c9, rfl, hb9, hc9⟩)
      rcases hc9 with ⟨-, -, hno⟩ | ⟨rfl, -, -, hown⟩
      · exact absurd ⟨HR.out.trims, by rw [fileR_trims]; exact HX.out⟩ hno
      · rw [fileR_trims] at hown
        have hbr : Below w.heap.size w wr := HB5.out.trans (HTT.out.B.mono (Nat.le_of_lt HS4.out))
        have hb9' : Below w.heap.size w w9 := hbr.trans (hb9.mono hbr.size)
        have hne : fileR e ps ≠ [] := fun h => by have := file_len e ps; rw [h] at this; simp at this
        have heq := equal_is (bs_own hown) ((show BS w (.slice (some ⟨b, off, none⟩) n cap) (fileR e ps) by rw [← HNN.out]; exact H.out).keep hb9') hne
        have HEQ := Lib.hid heq
        have l0 := (hb9.cell (p := ⟨w4.heap.size, 0, none⟩) HTT.out.lt).trans k0
        have l1 := (hb9.cell (p := ⟨w4.heap.size, 1, none⟩) HTT.out.lt).trans k1
        have hh9 := (hb9.block w.heap.size (Nat.lt_trans HS4.out HTT.out.lt)).trans ((HTT.out.B.block w.heap.size HS4.out).trans HH5.out)
        have r0 : w9.cell? ⟨w.heap.size, 0, none⟩ = some (.int .u32 0) := by rw [cell_of_row _ _ _ _ _ _ hh9]; rfl
        have r1 : w9.cell? ⟨w.heap.size, 1, none⟩ = some (.slice none 0 0) := by rw [cell_of_row _ _ _ _ _ _ hh9]; rfl
        have f0 : ∀ j, w9.frozen? ⟨w.heap.size, j, none⟩ = false := fun j => by simp only [World.frozen?, hh9]; simp
        have HB9 := Lib.hid hb9'
        have HB99 := Lib.hid hb9
        clear hown hbr hb9' hb9 hne heq hh9
        go_wp2_with (go_at_call 69; refine HEQ.out.mono ?_; rintro e7 w7 ⟨rfl, rfl⟩)
        refine bodyPost_ret (v := .tuple #[.agg #[.int .u32 e, .slice va (trims ps).length vc], .int .i64 0]) (by simp [results, Try.results48, go_sem, r0, r1]) rfl ⟨_, w4.heap.size + 1, Nat.le_of_lt (Nat.lt_succ_of_lt HS4.out), rfl, ?_, ?_⟩
        · exact ((HTT.out.O.keep HB99.out).other (Nat.lt_succ_of_lt HS4.out)).other (Nat.lt_succ_of_lt HS4.out)
        · exact (HB9.out.setCell (Nat.le_refl _) _).setCell (Nat.le_refl _) _
end Go.Proofs.Ytgdihccmkleimaa.BootLaw
