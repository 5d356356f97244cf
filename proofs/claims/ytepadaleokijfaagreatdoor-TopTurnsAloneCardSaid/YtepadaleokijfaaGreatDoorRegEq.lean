/- The blocks of ringtop.TopTurnsAlone: what is copied, set, put together. No walk here. ringtop.TopTurnsAlone's state between its calls. No walk here. Registers compared. -/
import Derived.Test.YtepadaleokijfaaGreatDoorAlP
import Derived.Test.YtepadaleokijfaaGreatDoorCpuRow
import Derived.Laws.StructEq
import Derived.WalkSpells
import Derived.ChangeKeysEq
namespace Go.Proofs.YtepadaleokijfaaGreatDoor
open Go.RowKit
set_option linter.unusedVariables false
set_option linter.unusedSimpArgs false
theorem splice_at {α : Type} (xs cs : List α) (o k : Nat) (h : o + cs.length ≤ xs.length) : (splice xs o cs)[k]? = if o ≤ k ∧ k < o + cs.length then cs[k - o]? else xs[k]? := by
  have ht : (xs.take o).length = o := by rw [List.length_take]; omega
  unfold splice
  rcases Nat.lt_or_ge k o with q | q
  · rw [if_neg (by omega), List.getElem?_append_left (by omega), List.getElem?_take, if_pos q]
  · rcases Nat.lt_or_ge k (o + cs.length) with q2 | q2
    · rw [if_pos ⟨q, q2⟩, List.getElem?_append_right (by omega), ht, List.getElem?_append_left (by omega)]
    · rw [if_neg (by omega), List.getElem?_append_right (by omega), ht, List.getElem?_append_right (by omega), List.getElem?_drop, show o + cs.length + (k - o - cs.length) = k by omega]
/-- a program's bytes are copied into a memory -/
theorem MemR.copy {w : World} {M n : Nat} {B : Nat → Nat → Nat} (h : MemR w M n B) {i : Nat} (hi : i < n) {L : List Int} {bl cap : Nat} (hc : ∀ j u, (L.map u8V)[j]? = some u → w.cell? ⟨bl, j, none⟩ = some u) (h64 : L.length ≤ 64) (hp : ∀ x ∈ L, 0 ≤ x) :
    ∃ w', (copyB #[.slice (some ⟨M, i * 1024, none⟩) 1024 1024, .slice (some ⟨bl, 0, none⟩) L.length cap]).run Tryz.prog w = .ok (.int .i64 L.length) w' ∧ MemR w' M n (fup B i (fun a => if a < L.length then ((L[a]?).getD 0).toNat else B i a)) ∧ Upd (fun k => k = M) w w' := by
  obtain ⟨C, hr, hs, hcc⟩ := h
  have hmin : Nat.min L.length 1024 = L.length := Nat.min_eq_left (by omega)
  have hfit : i * 1024 + (L.map u8V).length ≤ C.size := by
    rw [List.length_map, hs]
    have : (i + 1) * 1024 ≤ n * 1024 := Nat.mul_le_mul_right _ hi
    omega
  have hrun := run_copyN w 34 34 3 5 1 M (i * 1024) 1024 1024 ⟨bl, 0, none⟩ L.length cap C _ (L.map u8V) Tryz.underlying34 (by kernel_rfl) hr (by rw [hmin]; simp) (fun j u hu => by rw [Addr.add_lit, Nat.zero_add]; exact hc j u hu) hfit (u8V_one L)
  rw [hmin] at hrun
  have hsz : (splice C.toList (i * 1024) (L.map u8V)).length = n * 1024 := by
    have hfit2 := hfit
    rw [List.length_map, hs] at hfit2
    simp [splice, hs]
    omega
  refine ⟨_, hrun, ⟨_, hr.setRow _, by simpa using hsz, fun j a hj ha => ?_⟩, Upd.setRow _ _ rfl⟩
  have hfit2 := hfit
  rw [List.length_map, hs] at hfit2
  rw [List.getElem?_toArray]
  have hC : C.toList.length = n * 1024 := by rw [Array.length_toList, hs]
  rw [splice_at _ _ _ _ (by rw [hC, List.length_map]; exact hfit2), List.length_map]
  by_cases e : j = i
  · subst e
    rw [fup_same]
    by_cases q : a < L.length
    · rw [if_pos q, if_pos ⟨Nat.le_add_right _ _, by omega⟩, show j * 1024 + a - j * 1024 = a by omega, List.getElem?_map, List.getElem?_eq_getElem q]
      have := hp _ (List.getElem_mem q)
      show some (Value.int .u8 L[a]) = some (Value.int .u8 ((L[a]).toNat : Nat))
      rw [Int.toNat_of_nonneg this]
    · rw [if_neg q, if_neg (by omega), Array.getElem?_toList]
      exact hcc j a hj ha
  · rw [fup_off _ _ e]
    have hn : ¬ (i * 1024 ≤ j * 1024 + a ∧ j * 1024 + a < i * 1024 + L.length) := by
      rcases Nat.lt_or_ge j i with q | q
      · have : (j + 1) * 1024 ≤ i * 1024 := Nat.mul_le_mul_right _ q
        omega
      · have : (i + 1) * 1024 ≤ j * 1024 := Nat.mul_le_mul_right _ (by omega)
        omega
    rw [if_neg hn, Array.getElem?_toList]
    exact hcc j a hj ha
theorem RegB.ring {w : World} {R n : Nat} {G : Nat → CpuLaw.G} (h : RegB w R n G) {i : Nat} (hi : i < n) (x : Int) : RegB (w.setCell ⟨R, i * 10 + 9, none⟩ (.int .i64 x)) R n (fup G i ⟨(G i).r, (G i).pc, x⟩) := by
  obtain ⟨C, hr, hs, hc⟩ := h
  rw [hr.setCell]
  refine ⟨_, hr.setRow _, by simpa using hs, fun k j hk hj => ?_⟩
  rw [Array.getElem?_setIfInBounds]
  by_cases e : i * 10 + 9 = k * 10 + j
  · obtain rfl : k = i := by omega
    obtain rfl : j = 9 := by omega
    rw [if_pos rfl, if_pos (by omega), fup_same]
    rfl
  · rw [if_neg e]
    by_cases q : k = i
    · subst q
      rw [fup_same, hc k j hk hj]
      have : j = 0 ∨ j = 1 ∨ j = 2 ∨ j = 3 ∨ j = 4 ∨ j = 5 ∨ j = 6 ∨ j = 7 ∨ j = 8 := by omega
      rcases this with rfl | rfl | rfl | rfl | rfl | rfl | rfl | rfl | rfl <;> rfl
    · rw [fup_off _ _ q]
      exact hc k j hk hj
theorem RegB.cellR {w : World} {R n : Nat} {G : Nat → CpuLaw.G} (h : RegB w R n G) {i : Nat} (hi : i < n) : w.cell? ⟨R, i * 10 + 9, none⟩ = some (.int .i64 (G i).ring) ∧ w.frozen? ⟨R, i * 10 + 9, none⟩ = false := by
  obtain ⟨C, hr, hs, hc⟩ := h
  exact ⟨(hr.cell _).trans (hc i 9 hi (by decide)), hr.fz _⟩
theorem mkR_run (w : World) (n : Nat) (hn : n ≤ 8) : ∃ w', (mkR (.int .i64 (n : Int)) (.int .i64 (n : Int))).run Tryz.prog w = .ok (.slice (some ⟨w.heap.size, 0, none⟩) n n) w' ∧ RegB w' w.heap.size n (fun _ => CpuLaw.zeroG) ∧ Below w.heap.size w w' := by
  obtain ⟨i, hi, hz, h3, h4⟩ := info_parts infoR
  have hr := run_makeSlice (P := Tryz.prog) w 33 41 i (.agg rgZ) Tryz.underlying33 hi hz .i64 .i64 (n : Int) (n : Int) (by omega) (Int.le_refl _) (by rw [h3, Int.toNat_natCast]; omega) (by rw [h4]; omega) (by omega)
  refine ⟨_, hr, ⟨_, row_new w _ _, by rw [h3, Int.toNat_natCast, size_madeCells], fun k j hk hj => ?_⟩, Go.Joins.below_alloc1 _ _⟩
  have hjn : k * 10 + j < n * 10 := by omega
  have hs : (madeCells (Value.cells (.agg rgZ)) ((n : Int).toNat * i.size)).size = n * 10 := by rw [h3, Int.toNat_natCast, size_madeCells]
  have h10 : (Value.cells (.agg rgZ)).size = 10 := rfl
  rw [Array.getElem?_eq_getElem (by rw [hs]; exact hjn), madeCells_at _ _ _ (by rw [hs]; exact hjn) (by rw [h10]; omega)]
  have : j = 0 ∨ j = 1 ∨ j = 2 ∨ j = 3 ∨ j = 4 ∨ j = 5 ∨ j = 6 ∨ j = 7 ∨ j = 8 ∨ j = 9 := by omega
  have hm : (k * 10 + j) % 10 = j := by omega
  have e : (Value.cells (.agg rgZ))[(k * 10 + j) % (Value.cells (.agg rgZ)).size]'(by rw [h10]; omega) = (Value.cells (.agg rgZ))[j]'(by rw [h10]; omega) := by
    congr 1
  rw [e]
  rcases this with rfl | rfl | rfl | rfl | rfl | rfl | rfl | rfl | rfl | rfl <;> rfl
/-- the first program, and the others -/
theorem PgL.cons {B : Nat} {w : World} {v : Value} {ls : List (List CodeLaw.Ins)} {xs : List Value} (h : PgL B w v ls xs) (hn : ls.length < 100) {b3 : Nat} {l : List CodeLaw.Ins} {c3 : Nat} (h3 : b3 < w.heap.size) (hi : InsL w (.slice (some ⟨b3, 0, none⟩) l.length c3) l) (hB : B ≤ w.heap.size) :
    ∃ p c w', (apIP #[.slice (some ⟨w.heap.size, 0, none⟩) 1 1, v]).run Tryz.prog (w.alloc (.cells #[.slice (some ⟨b3, 0, none⟩) l.length c3] 30)) = .ok (.slice p (ls.length + 1) c) w' ∧ PgL B w' (.slice p (ls.length + 1) c) (l :: ls) (.slice (some ⟨b3, 0, none⟩) l.length c3 :: xs) ∧ Below w.heap.size w w' := by
  obtain ⟨W, hW⟩ : ∃ W, W = w.alloc (.cells #[.slice (some ⟨b3, 0, none⟩) l.length c3] 30) := ⟨_, rfl⟩
  have hal : Below w.heap.size w W := by rw [hW]; exact Go.Joins.below_alloc1 w _
  have hsz : W.heap.size = w.heap.size + 1 := by rw [hW]; exact size_alloc1 w _
  have hrow : Row W w.heap.size 30 #[.slice (some ⟨b3, 0, none⟩) l.length c3] := by rw [hW]; exact row_new w _ _
  rw [← hW]
  clear hW
  obtain ⟨i0, i1, hz0, hz1, hz2⟩ := info_parts infoIL2
  have hown : W.ownsRow B 30 1 (.slice (some ⟨w.heap.size, 0, none⟩) 1 1) 1 [.slice (some ⟨b3, 0, none⟩) l.length c3] := ⟨rfl, .inr ⟨w.heap.size, 1, _, rfl, hB, hrow, Nat.le_refl _, by unfold maxLen; decide, rfl, rfl⟩⟩
  have hv2 := owns_keep h.own hal
  have key : ∃ v' w', (apIP #[.slice (some ⟨w.heap.size, 0, none⟩) 1 1, v]).run Tryz.prog W = .ok v' w' ∧ w'.ownsRow B 30 1 v' (1 + ls.length) ([.slice (some ⟨b3, 0, none⟩) l.length c3] ++ xs) ∧ W.grownBy w' (some w.heap.size) ∧ (v'.ownBlock = some w.heap.size ∨ ∃ g, W.heap.size ≤ g ∧ v'.ownBlock = some g) := by
    rcases id hv2.2 with ⟨e, e0⟩ | ⟨g, cap, cur, e, hBg, hg, -⟩
    · have hx : xs = [] := List.length_eq_zero_iff.1 (by rw [h.len, e0])
      subst e
      refine ⟨_, W, run_append_owned_none (P := Tryz.prog) W B 25 25 30 i0 1 Tryz.underlying25 i1 _ 1 _ hown, by rw [e0, hx]; exact hown, ⟨rfl, rfl, rfl, Nat.le_refl _, fun _ _ _ => rfl⟩, .inl rfl⟩
    · subst e
      have hcell := hv2.cells (g := g) rfl
      obtain ⟨v', w', hr, ho, hg, hd⟩ := run_append_fresh (P := Tryz.prog) W B 25 25 30 i0 (.slice none 0 0) 1 24 Tryz.underlying25 i1 hz0 hz1 hz2 rfl (by decide) (.slice (some ⟨w.heap.size, 0, none⟩) 1 1) 1 _ hown ⟨g, 0, none⟩ ls.length cap xs (by rw [h.len, Nat.mul_one]) hcell (fun u hu => by
        obtain ⟨i, hi⟩ := List.getElem?_of_mem hu
        obtain ⟨l', b', cap', -, rfl, -⟩ := h.one i u hi
        rfl) (by unfold maxLen; omega) (by omega) (Nat.le_trans hB hal.size)
      exact ⟨v', w', hr, ho, hg, hd⟩
  obtain ⟨v', w', hr, ho, hg, hd⟩ := key
  have hbw : Below w.heap.size w w' := hal.trans ((Below.refl w.heap.size W).grown hg hal.size (fun k e => by injection e with e; omega))
  have hUp := Upd.grown0 (S := fun j => some w.heap.size = some j) hg (fun j e _ => e)
  have hnb : ∀ b, b < w.heap.size → v'.ownBlock ≠ some b := fun b hb e => by
    rcases hd with q | ⟨g, hg1, q⟩
    · rw [q] at e; injection e with e; omega
    · rw [q] at e; injection e with e; omega
  obtain ⟨p, c, hv⟩ := own_form ho
  subst hv
  rw [Nat.add_comm 1 ls.length] at hr ho hnb
  refine ⟨p, c, w', hr, ⟨by rw [List.length_cons]; exact ho, by simp [h.len], fun i x hx => ?_⟩, hbw⟩
  cases i with
  | zero =>
    injection hx with hx
    subst hx
    exact ⟨l, b3, c3, rfl, rfl, Nat.lt_of_lt_of_le h3 hbw.size, hi.keep hbw, hnb _ h3⟩
  | succ i =>
    have hx : xs[i]? = some x := hx
    obtain ⟨l', b', cap', hl', rfl, hb', hi', -⟩ := h.one i x hx
    exact ⟨l', b', cap', hl', rfl, Nat.lt_of_lt_of_le hb' hbw.size, hi'.keep hbw, hnb _ hb'⟩
end Go.Proofs.YtepadaleokijfaaGreatDoor
namespace Go.Proofs.YtepadaleokijfaaGreatDoor
open Go.RowKit
set_option linter.unusedVariables false
set_option linter.unusedSimpArgs false
/-- the bytes of a program in a memory -/
def bpP (l : List CodeLaw.Ins) (a : Nat) : Nat := if a < (progB l).length then (((progB l)[a]?).getD 0).toNat else 0
theorem bp_bt {l : List CodeLaw.Ins} (h : l.length ≤ 16) : CpuLaw.bt (bpP l) (fun _ => 0) = bpP l := by
  funext a
  unfold CpuLaw.bt
  split
  · rename_i q
    unfold bpP
    rw [if_neg (by rw [progB_len]; omega)]
  · rfl
theorem bt_bt (c d d' : Nat → Nat) : CpuLaw.bt (CpuLaw.bt c d) d' = CpuLaw.bt c d' := by
  funext a
  unfold CpuLaw.bt
  split
  · rfl
  · rfl
theorem bt_self (c d : Nat → Nat) : CpuLaw.bt (CpuLaw.bt c d) d = CpuLaw.bt c d := bt_bt c d d
theorem progB_pos {l : List CodeLaw.Ins} (h : PrgA l) : ∀ x ∈ progB l, 0 ≤ x ∧ x < 256 := by
  intro x hx
  unfold progB at hx
  obtain ⟨y, hy, hx⟩ := List.mem_flatMap.1 hx
  obtain ⟨i, hi⟩ := List.getElem?_of_mem hy
  obtain ⟨-, h0, h1⟩ := h.encs i y hi
  unfold wordB at hx
  simp only [List.mem_cons, List.not_mem_nil, or_false] at hx
  rcases hx with rfl | rfl | rfl | rfl <;> omega
theorem bpP_lt {l : List CodeLaw.Ins} (h : PrgA l) (a : Nat) : bpP l a < 256 := by
  unfold bpP
  split
  · rename_i q
    rw [List.getElem?_eq_getElem q]
    have := progB_pos h _ (List.getElem_mem q)
    show ((progB l)[a]).toNat < 256
    omega
  · decide
theorem word_bp {l : List CodeLaw.Ins} (h : PrgA l) {d : Nat → Nat} (hd : ∀ k, d k < 256) {i : Nat} {x : CodeLaw.Ins} (hx : l[i]? = some x) : CpuLaw.WordB (CpuLaw.bt (bpP l) d) (4 * i) (insW x) := by
  have hi : i < l.length := (List.getElem?_eq_some_iff.1 hx).1
  have l16 := h.len.2
  obtain ⟨-, e0, e1⟩ := h.encs i x hx
  obtain ⟨n, hn⟩ : ∃ n : Nat, (CodeLaw.encI x).1 = n := ⟨(CodeLaw.encI x).1.toNat, by omega⟩
  have w : insW x = n := by unfold insW; rw [hn]; exact Int.toNat_natCast n
  have hb : ∀ t, t < 4 → CpuLaw.bt (bpP l) d (4 * i + t) = (((wordB (n : Int))[t]?).getD 0).toNat := fun t ht => by
    unfold CpuLaw.bt
    rw [if_neg (by omega)]
    unfold bpP
    rw [if_pos (by rw [progB_len]; omega), show 4 * i + t = i * 4 + t by omega, progB_get l hx ht, hn]
  refine ⟨by omega, by omega, fun k => ?_, ?_⟩
  · unfold CpuLaw.bt
    split
    · exact hd _
    · exact bpP_lt h k
  · have h0 := hb 0 (by decide)
    rw [Nat.add_zero] at h0
    rw [h0, hb 1 (by decide), hb 2 (by decide), hb 3 (by decide), w]
    show n = ((n : Int) % 256).toNat + ((n : Int) / 256 % 256).toNat * 256 + ((n : Int) / 65536 % 256).toNat * 65536 + ((n : Int) / 16777216).toNat * 16777216
    omega
/-- memories and registers, as they stand alone -/
structure Bk (w : World) (Mb Rb N : Nat) (P : Nat → List CodeLaw.Ins) (cm : Nat → Nat) : Prop where
  mm : CpuLaw.MemA w Mb N (fun i => CpuLaw.bt (bpP (P (i + 1))) (runP (P (i + 1)) (cm (i + 1))).d)
  rg : RegB w Rb N (fun i => (runP (P (i + 1)) (cm (i + 1))).g)
  ne : Mb ≠ Rb
theorem Bk.upd {S : Nat → Prop} {w w' : World} {Mb Rb N : Nat} {P : Nat → List CodeLaw.Ins} {cm : Nat → Nat} (h : Bk w Mb Rb N P cm) (hu : Upd S w w') (hM : ¬ S Mb) (hR : ¬ S Rb) : Bk w' Mb Rb N P cm :=
  ⟨h.mm.keepB (hu.block Mb h.mm.lt hM) hu.size, h.rg.upd hu hR, h.ne⟩
/-- the law's state -/
structure As (w0 w : World) (k : KC) (s : KSt) (Mb Rb nc N nt : Nat) (P : Nat → List CodeLaw.Ins) (cnt cm : Nat → Nat) : Prop where
  sv : Sv w0 w k s
  tz : Tz s nc N nt P cnt
  tM : s.tag Mb = 0
  tR : s.tag Rb = 0
  lM : w0.heap.size ≤ Mb
  lR : w0.heap.size ≤ Rb
  bk : Bk w Mb Rb N P cm
section
variable {w0 w w' : World} {k : KC} {s : KSt} {Mb Rb nc N nt : Nat} {P : Nat → List CodeLaw.Ins} {cnt cm : Nat → Nat}
theorem As.keep (h : As w0 w k s Mb Rb nc N nt P cnt cm) (hb : Below w.heap.size w w') : As w0 w' k s Mb Rb nc N nt P cnt cm :=
  ⟨h.sv.keep hb, h.tz, h.tM, h.tR, h.lM, h.lR, h.bk.upd (Upd.below hb (S := fun _ => False)) (fun e => e) (fun e => e)⟩
/-- behind a turn -/
theorem As.turn {p : Nat} (h : As w0 w k s Mb Rb nc N nt P cnt cm) (ho : TOut w w' k s nc N nt P cnt p) : ∃ s' nt', nt' ≤ nt + 1 ∧ As w0 w' k s' Mb Rb nc N nt' P (bmp cnt p) cm := by
  obtain ⟨s', nt', h1, hg, hz⟩ := ho
  have tag : ∀ b, s.tag b = 0 → b < w.heap.size → s'.tag b = 0 := fun b h0 hb => by
    cases Nat.eq_zero_or_pos (s'.tag b) with
    | inl e => exact e
    | inr e =>
      rcases hg.far b (by omega) with q | q
      · exact absurd h0 q
      · omega
  exact ⟨s', nt', h1, h.sv.kg hg, hz, tag _ h.tM h.bk.mm.lt, tag _ h.tR h.bk.rg.lt, h.lM, h.lR, h.bk.upd hg.up (fun e => e h.tM) (fun e => e h.tR)⟩
theorem As.zero (h : As w0 w k s Mb Rb nc N nt P (bmp cnt 0) cm) (e : cm = cnt) : As w0 w k s Mb Rb nc N nt P (bmp cnt 0) (bmp cnt 0) := by
  subst e
  have e1 : ∀ i, bmp cm 0 (i + 1) = cm (i + 1) := fun i => if_neg (by omega)
  refine ⟨h.sv, h.tz, h.tM, h.tR, h.lM, h.lR, ⟨?_, ?_, h.bk.ne⟩⟩
  · have := h.bk.mm
    have e2 : (fun i => CpuLaw.bt (bpP (P (i + 1))) (runP (P (i + 1)) (bmp cm 0 (i + 1))).d) = fun i => CpuLaw.bt (bpP (P (i + 1))) (runP (P (i + 1)) (cm (i + 1))).d := by funext i; rw [e1]
    rw [e2]; exact this
  · have := h.bk.rg
    have e2 : (fun i => (runP (P (i + 1)) (bmp cm 0 (i + 1))).g) = fun i => (runP (P (i + 1)) (cm (i + 1))).g := by funext i; rw [e1]
    rw [e2]; exact this
/-- a step of a process's own: the memory's half -/
theorem astep_is (h : As w0 w k s Mb Rb nc N nt P cnt cm) (hP : ∀ p, PrgA (P p)) {i : Nat} (hi : i < N) {wx : World} (hM : CpuLaw.MemA wx Mb N (fun i => CpuLaw.bt (bpP (P (i + 1))) (runP (P (i + 1)) (cm (i + 1))).d)) :
    Calls Tryz.prog 10 #[.agg (CpuLaw.cellsA (runP (P (i + 1)) (cm (i + 1))).g), .iface 50 (.agg #[.pointer (some ⟨Mb, i * 1024, none⟩)])] wx fun e w' => e = .returned (.tuple #[.agg (CpuLaw.cellsA (runP (P (i + 1)) (cm (i + 1) + 1)).g), .agg #[.int .i64 0, .int .u32 0]]) ∧ Upd (fun k => k = Mb) wx w' ∧ CpuLaw.MemA w' Mb N (fun j => CpuLaw.bt (bpP (P (j + 1))) (runP (P (j + 1)) (bmp cm (i + 1) (j + 1))).d) := by
  have hok := runP_ok (hP (i + 1)) (cm (i + 1))
  obtain ⟨y, hy⟩ : ∃ y, (P (i + 1))[(runP (P (i + 1)) (cm (i + 1))).g.pc / 4]? = some y := ⟨_, List.getElem?_eq_getElem hok.lt⟩
  obtain ⟨A, B, hin, -⟩ := (hP (i + 1)).at' _ y hy
  have hst := stP_at hy hin
  have hwd := word_bp (hP (i + 1)) hok.dl hy
  rw [show 4 * ((runP (P (i + 1)) (cm (i + 1))).g.pc / 4) = (runP (P (i + 1)) (cm (i + 1))).g.pc by have := hok.pc4; omega] at hwd
  have hq : CpuLaw.RQ Mb N (fun i => CpuLaw.bt (bpP (P (i + 1))) (runP (P (i + 1)) (cm (i + 1))).d) i (runP (P (i + 1)) (cm (i + 1))).d wx := by
    unfold CpuLaw.RQ
    rw [fup_id (fun i => CpuLaw.bt (bpP (P (i + 1))) (runP (P (i + 1)) (cm (i + 1))).d) i _ (bt_self _ _).symm]
    exact hM
  refine (CpuLaw.bstep_is (CpuLaw.rbus_is hi) hq hwd (insW_dec hin) hin.ok hok.r0 hok.dl hok.rl).mono ?_
  rintro e w' ⟨rfl, hu, hq'⟩
  have e1 : (runP (P (i + 1)) (cm (i + 1) + 1)) = stP (P (i + 1)) (runP (P (i + 1)) (cm (i + 1))) := rfl
  refine ⟨by rw [e1, hst]; rfl, hu, ?_⟩
  unfold CpuLaw.RQ at hq'
  have eb : CpuLaw.bt ((fun i => CpuLaw.bt (bpP (P (i + 1))) (runP (P (i + 1)) (cm (i + 1))).d) i) (CpuLaw.stI y.op A B y.c (runP (P (i + 1)) (cm (i + 1))).g (runP (P (i + 1)) (cm (i + 1))).d).2 = CpuLaw.bt (bpP (P (i + 1))) (CpuLaw.stI y.op A B y.c (runP (P (i + 1)) (cm (i + 1))).g (runP (P (i + 1)) (cm (i + 1))).d).2 := bt_bt _ _ _
  rw [eb] at hq'
  have e2 : fup (fun i => CpuLaw.bt (bpP (P (i + 1))) (runP (P (i + 1)) (cm (i + 1))).d) i (CpuLaw.bt (bpP (P (i + 1))) (CpuLaw.stI y.op A B y.c (runP (P (i + 1)) (cm (i + 1))).g (runP (P (i + 1)) (cm (i + 1))).d).2) = fun j => CpuLaw.bt (bpP (P (j + 1))) (runP (P (j + 1)) (bmp cm (i + 1) (j + 1))).d := by
    funext j
    by_cases q : j = i
    · subst q
      rw [fup_same, show bmp cm (j + 1) (j + 1) = cm (j + 1) + 1 from if_pos rfl, e1, hst]
    · rw [fup_off _ _ q, show bmp cm (i + 1) (j + 1) = cm (j + 1) from if_neg (by omega)]
  rw [e2] at hq'
  exact hq'
/-- and the registers' -/
theorem RegB.bumped {i : Nat} (h : RegB w Rb N (fup (fun i => (runP (P (i + 1)) (cm (i + 1))).g) i (runP (P (i + 1)) (cm (i + 1) + 1)).g)) : RegB w Rb N (fun j => (runP (P (j + 1)) (bmp cm (i + 1) (j + 1))).g) := by
  have e2 : fup (fun i => (runP (P (i + 1)) (cm (i + 1))).g) i (runP (P (i + 1)) (cm (i + 1) + 1)).g = fun j => (runP (P (j + 1)) (bmp cm (i + 1) (j + 1))).g := by
    funext j
    by_cases q : j = i
    · subst q
      rw [fup_same, show bmp cm (j + 1) (j + 1) = cm (j + 1) + 1 from if_pos rfl]
    · rw [fup_off _ _ q, show bmp cm (i + 1) (j + 1) = cm (j + 1) from if_neg (by omega)]
  rw [e2] at h
  exact h
end
end Go.Proofs.YtepadaleokijfaaGreatDoor
namespace Go.Proofs.YtepadaleokijfaaGreatDoor.CpuLaw
open Go.RowKit
set_option linter.unusedVariables false
set_option linter.unusedSimpArgs false
/-- the general registers as an array -/
def regsA (g : G) : Array Value := #[.int .u32 (g.r 0), .int .u32 (g.r 1), .int .u32 (g.r 2), .int .u32 (g.r 3), .int .u32 (g.r 4), .int .u32 (g.r 5), .int .u32 (g.r 6), .int .u32 (g.r 7)]
theorem part_at (g : G) (i : Nat) (hi : i < 8) (w : World) : (part 38 (regsA g) (i * 1)).run Tryz.prog w = .ok (.int .u32 (g.r i)) w := by
  have : i = 0 ∨ i = 1 ∨ i = 2 ∨ i = 3 ∨ i = 4 ∨ i = 5 ∨ i = 6 ∨ i = 7 := by omega
  rcases this with rfl | rfl | rfl | rfl | rfl | rfl | rfl | rfl <;> simp [part, go_sem, regsA]
theorem items_same (d : Nat) (w : World) (h : Nat → Nat) (A A' : Array Value) (hA : ∀ i, i < 8 → ∀ w, (part 38 A (i * 1)).run Tryz.prog w = .ok (.int .u32 (h i)) w) (hA' : ∀ i, i < 8 → ∀ w, (part 38 A' (i * 1)).run Tryz.prog w = .ok (.int .u32 (h i)) w) : ∀ is : List Nat, (∀ i ∈ is, i < 8) → (Op.eqItems (d + 1) 38 1 A A' is).run Tryz.prog w = .ok true w := by
  intro is
  induction is with
  | nil => intro _; simp [Op.eqItems]
  | cons i is ih =>
    intro hi
    have h1 := hA i (hi i (by simp)) w
    have h1' := hA' i (hi i (by simp)) w
    have h2 := ih (fun j hj => hi j (by simp [hj]))
    simp only [Op.eqItems, Sem.run_bind, h1, h1', Result.andThen_ok]
    have h3 := run_equalIn_int w d 38 .u32 .u32 (h i) (h i) Tryz.underlying38
    simp [h2, h3]
theorem eq59 {g g' : G} (d : Nat) (hr : ∀ i, i < 8 → g'.r i = g.r i) (w : World) : (Op.equalIn (d + 2) 39 (.agg (regsA g)) (.agg (regsA g'))).run Tryz.prog w = .ok true w := by
  rw [show d + 2 = (d + 1) + 1 from rfl, run_equalIn_array w (d + 1) _ _ Tryz.underlying39 (i := Tryz.t38) (by kernel_rfl), show Tryz.prog.cellsOf 38 = 1 from by kernel_rfl]
  exact items_same d w g.r _ _ (fun i hi w => part_at g i hi w) (fun i hi w => by rw [← hr i hi]; exact part_at g' i hi w) _ (fun i hi => by simpa using hi)
set_option maxRecDepth 100000 in
set_option maxHeartbeats 1000000 in
theorem eq61 (g : G) (w : World) : (Op.equalIn 10000 41 (.agg (cellsA g)) (.agg (cellsA g))).run Tryz.prog w = .ok true w := by
  have h := eq59 (g := g) (g' := g) 9997 (fun _ _ => rfl) w
  unfold cellsA
  unfold regsA at h
  simp [go_sem, h]
theorem neq61 (g : G) (w : World) : (binOp .neq 41 (.agg (cellsA g)) (.agg (cellsA g))).run Tryz.prog w = .ok (.bool false) w := by
  have h : (Op.equalIn Op.maxDepth 41 (.agg (cellsA g)) (.agg (cellsA g))).run Tryz.prog w = .ok true w := eq61 g w
  generalize cellsA g = A at *
  simp [binOp, Op.equal, h, go_sem]
end Go.Proofs.YtepadaleokijfaaGreatDoor.CpuLaw
