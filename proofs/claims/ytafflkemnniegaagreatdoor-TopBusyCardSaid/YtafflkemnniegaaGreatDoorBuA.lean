/- The kernel's calls CFork, CExit, CSleep, asked of any process that is awake. No walk here. The plain law of who runs where: as many processors have work as there are tasks that are ready, or all. No walk here. -/
import Derived.Test.YtafflkemnniegaaGreatDoorWhA
import Derived.Test.YtafflkemnniegaaGreatDoorSlG
import Derived.Test.YtafflkemnniegaaGreatDoorSlJ
namespace Go.Proofs.YtafflkemnniegaaGreatDoor
open Go.RowKit
set_option linter.unusedVariables false
set_option linter.unusedSimpArgs false
section
variable {w0 w : World} {k : KC} {s : KSt} {p c : Nat} {T : KSt → Int → Int → Int → Prop}
/-- kernel.fork, the child's directory being one of the kernel's blocks -/
theorem kforkC_is (h : KT w0 k s) (hp : ProcLaw.alive s.t p) (h1 : ∀ j, j < 38 → (s.c (8 + p * 38 + j)).oneCell' = true) {s1 : Int} {b s2 : Nat} (hsp : s.c (8 + p * 38) = .int .i64 s1) (hm : MayFork s.m s1 b s2)
    (c1 : 1 ≤ c) (c16 : c ≤ 16) (hc : (s.t c).st = 0) (hcb : ∀ j, 1 ≤ j → j < c → (s.t j).st ≠ 0) {vm : Value} (hmo : s.c (8 + p * 38 + 13) = vm) (hvm : vm = .slice none 0 0 ∨ ∃ b, vm = .slice (some ⟨b, 0, none⟩) 0 0) {bw : Nat} (hcw : s.cw p = some bw) (hmt : s.c (8 + p * 38 + 18) = .slice none 0 0) (hsg : ∀ j, j < 18 → s.c (8 + p * 38 + 19 + j) = .int .i64 0) (hwn : s.cw c = none) (hid : idG s.l c = none) (hll : s.l.length < 1000) (hpc : p ≠ c) (hfd : ∀ i, i < 8 → s.fd (c * 8 + i) = 0) (hfs : ∀ k, k < 32 → 0 ≤ (s.fs k).n ∧ (s.fs k).n ≤ 200)
    (hT : ∀ m' nb (c' : Nat → Value) tag' ad' cap' gg, w0.heap.size ≤ nb → Forked s.m m' s1 s2 b nb → (∀ j, (j < 8 + c * 38 ∨ 8 + c * 38 + 38 ≤ j) → c' j = s.c j) → c' (8 + c * 38) = .int .i64 s2 → (∀ j, j < 18 → c' (8 + c * 38 + 19 + j) = .int .i64 0) → c' (8 + c * 38 + 37) = s.c (8 + p * 38 + 37) → (∀ i, 4 ≤ i → i ≤ 10 → c' (8 + c * 38 + i) = s.c (8 + p * 38 + i)) → (∀ i, 1 ≤ i → i ≤ 3 → c' (8 + c * 38 + i) = .int .u32 0) → (∀ j, j < 38 → (c' (8 + c * 38 + j)).oneCell' = true) → (∃ b5, c' (8 + c * 38 + 13) = .slice (some ⟨b5, 0, none⟩) 0 0) → c' (8 + c * 38 + 18) = .slice none 0 0 → T { tag := tag', c := c', t := ProcLaw.forked s.t c p, fs := OpenLaw.fkF s.fs (fun i => s.fd (p * 8 + i)) 8, fd := OpenLaw.cpD s.fd p c 8, ad := ad', cap := cap', l := enterL s.l c s.nc, m := m', cw := fup s.cw c (some gg), nc := s.nc, tk := s.tk, fr := s.fr, sl := s.sl, wn := s.wn, wv := s.wv, wl := s.wl } 0 c 0) :
    Spec w0 (KOut w0.heap.size k s.tag T) 127 #[.pointer (some ⟨k.K, 0, none⟩), .int .i64 p] := by
  intro w1 hw1
  refine (kfork3_is (T := fun s' gg e a b => (∃ cp, s'.c (8 + c * 38 + 17) = .slice (some ⟨gg, 0, none⟩) 1 cp) ∧ s'.cw = s.cw ∧ ∀ tag2, T { s' with cw := fup s.cw c (some gg), tag := tag2 } e a b) h hp h1 hsp hm c1 c16 hc hcb hmo hvm hcw hmt hsg hwn hid hll hpc hfd hfs (fun m' nb c' tag' ad' cap' gg cp2 b5 h11 h13 h17 h18 hcp1 hcp2 hnb hf hco h0 hsg hsl hrg hr0 hon => ⟨⟨cp2, h17⟩, rfl, fun tag2 => hT m' nb c' tag2 ad' cap' gg hnb hf hco h0 hsg hsl hrg hr0 hon ⟨b5, h13⟩ h18⟩) w1 hw1).mono ?_
  rintro e w' ⟨X, rfl, hX, hone, hu, s', g, e, a, b, hk, hf, hg, hgl, hgt, rfl, ⟨⟨cp, h17⟩, hcw', hT'⟩, hU⟩
  have hgz : g < w'.heap.size := World.block_lt_of_cell? w' _ hg
  have hk2 : KT w' k { s' with cw := fup s'.cw c (some g), tag := fup s'.tag g 7 } := hk.cells hk.kr (Upd.refl _ _) (fun _ _ => rfl) (fun j hj => fup_off _ _ (fun e => hj (by rw [e]; exact hgt))) (fun j hj => by rw [fup_off _ _ (by omega)]; exact hk.tz j hj) (fun p' b' hb' => by
    by_cases e : p' = c
    · subst e
      rw [fup_same] at hb'
      injection hb' with hb'
      subst hb'
      exact ⟨⟨cp, h17⟩, hg, hgz, fup_same _ _ _⟩
    · rw [fup_off _ _ e] at hb'
      obtain ⟨q1, q2, q3, q4⟩ := hk.cw p' b' hb'
      have : b' ≠ g := fun e => by rw [e, hgt] at q4; exact absurd q4 (by decide)
      exact ⟨q1, q2, q3, by rw [fup_off _ _ this]; exact q4⟩)
  refine ⟨_, rfl, hX, hone, hu, _, e, a, b, hk2, fun j hj => ?_, rfl, ?_, hU⟩
  · by_cases e : j = g
    · subst e; exact .inr hgl
    · have hj : fup s'.tag g 7 j ≠ 0 := hj
      rw [fup_off _ _ e] at hj
      exact hf j hj
  · rw [hcw']
    exact hT' _
theorem ask_any (h : KT w k s) (haw : Awake s p) {num : Int} (hn : num = 1 ∨ num = 2) {P : KSt → Int → Int → Int → Prop}
    (hs : OutOk w (KOut w.heap.size k s.tag P) → Spec w (KOut w.heap.size k s.tag P) 51 #[.pointer (some ⟨k.K, 0, none⟩), .int .i64 p, .agg (callT num)]) :
    Calls Tryz.prog 6 #[.pointer (some ⟨k.K, 0, none⟩), .int .i64 p, .agg (callT num)] w fun e w' => ∃ s' er a b, e = .returned (.agg (ansV er a b (.slice none 0 0))) ∧ KG s k w w' s' ∧ P s' er a b := by
  have ok := kout_ok (k := k) (w0 := w) (tag0 := s.tag) h.tz P
  refine (askP_is ok (Below.refl _ _) h haw rfl (doP_is ok (by rcases hn with q | q; exact .inl q; exact .inr (.inl q)) rfl rfl (hs ok))).mono ?_
  rintro e2 w' ⟨X, rfl, hX, hone, hu, s', e, a, b, hk, hf, rfl, hP, hU⟩
  exact ⟨s', e, a, b, rfl, ⟨hk, hU, hf⟩, hP⟩
/-- the state behind sleep, at any timers -/
def sleptA (s : KSt) (p i : Nat) (x : Tk) (at' : Int) (v' : Value) (tag' : Nat → Nat) : KSt := { s with c := upV s.c (8 + p * 38 + 37) (.bool true), l := fillG (s.l.set i { x with rd := false, cpu := -1 }) s.nc, wv := v', wl := insT s.wl (at', (p : Int)), tag := tag' }
theorem ask_sleepA (h : KT w k s) (haw : Awake s p) {i : Nat} {x : Tk} {n nw : Int} (n1 : 1 ≤ n) (n9 : n ≤ 1000) (h9 : s.c 654 = .int .u32 nw) (w0' : 0 ≤ s.wn) (w1' : s.wn ≤ nw) (w2' : nw < 1000000) (hl : s.wl.length ≤ 200) (hn : ∀ (k : Nat) (t : Int × Int), s.wl[k]? = some t → t.2 ≠ p) (ht : ∀ (k : Nat) (t : Int × Int), s.wl[k]? = some t → 0 ≤ t.1 ∧ t.1 < 1000000000) (hi : idG s.l p = some i) (hx : s.l[i]? = some x) (hr : x.rd = true) :
    Calls Tryz.prog 6 #[.pointer (some ⟨k.K, 0, none⟩), .int .i64 p, .agg (callU 34 n)] w fun e w' => e = .returned (.agg (ansV 0 0 0 (.slice none 0 0))) ∧ ∃ v' tag', KG s k w w' (sleptA s p i x (nw + n) v' tag') := by
  have ok := kout_ok (k := k) (w0 := w) (tag0 := s.tag) h.tz (fun s' e a b => e = 0 ∧ a = 0 ∧ b = 0 ∧ ∃ v' tag', s' = sleptA s p i x (nw + n) v' tag')
  refine (askP_is ok (Below.refl _ _) h haw rfl (doQ_is ok (.inr rfl) rfl rfl (proc_sleep (a := n) (by have := haw.p1; omega) (by have := haw.p16; omega) ok rfl rfl rfl (fun w1 h1 => (ksleepA_is (h.keep h1) haw.p16 n1 n9 h9 w0' w1' w2' hl hn ht hi hx hr).mono ?_)))).mono ?_
  · rintro e w2 ⟨rfl, v', tag', hg⟩
    exact ⟨0, rfl, hg.up.mono (fun j _ e => h.lt e), _, 0, 0, 0, hg.kt, hg.far, rfl, ⟨rfl, rfl, rfl, v', tag', rfl⟩, hg.up⟩
  · rintro e2 w' ⟨X, rfl, hX, hone, hu, s', e, a, b, hk, hf, rfl, ⟨rfl, rfl, rfl, v', tag', rfl⟩, hU⟩
    exact ⟨rfl, v', tag', hk, hU, hf⟩
end
/-- a word lies where the same page is named -/
theorem word_move {m m' : MS} {b b' a x : Nat} (h : CpuLaw.WordAt m b a x) (hF : m'.F b' = m.F b) (hpl : ∀ g, g ∈ m.pl → g ∈ m'.pl ∧ m'.d g = m.d g) : CpuLaw.WordAt m' b' a x := by
  obtain ⟨pg, r, g, o, x0, x1, x2, x3, h0, h1, h2, h3, h4, h5, h6, h7, h8, h9, h10, h11, h12⟩ := h.at'
  obtain ⟨hg, hd⟩ := hpl g h3
  exact ⟨pg, r, g, o, x0, x1, x2, x3, h0, h1, by rw [hF]; exact h2, hg, h4, h5, h6, h7, by rw [hd]; exact h8, by rw [hd]; exact h9, by rw [hd]; exact h10, by rw [hd]; exact h11, h12⟩
end Go.Proofs.YtafflkemnniegaaGreatDoor
namespace Go.Proofs.YtafflkemnniegaaGreatDoor
set_option linter.unusedVariables false
set_option linter.unusedSimpArgs false
/-- how many numbers below n have it -/
def cntB (P : Nat → Bool) : Nat → Nat
  | 0 => 0
  | n + 1 => cntB P n + if P n then 1 else 0
theorem cntB_le (P : Nat → Bool) : ∀ n, cntB P n ≤ n
  | 0 => Nat.le_refl _
  | n + 1 => by
    have := cntB_le P n
    unfold cntB
    split <;> omega
theorem cntB_congr {P Q : Nat → Bool} : ∀ {n : Nat}, (∀ k, k < n → P k = Q k) → cntB P n = cntB Q n
  | 0, _ => rfl
  | n + 1, h => by
    unfold cntB
    rw [cntB_congr (n := n) (fun k hk => h k (by omega)), h n (by omega)]
theorem cntB_all {P : Nat → Bool} : ∀ {n : Nat}, (∀ k, k < n → P k = true) → cntB P n = n
  | 0, _ => rfl
  | n + 1, h => by
    unfold cntB
    rw [cntB_all (n := n) (fun k hk => h k (by omega)), h n (by omega)]
    rfl
theorem cntB_none {P : Nat → Bool} : ∀ {n : Nat}, (∀ k, k < n → P k = false) → cntB P n = 0
  | 0, _ => rfl
  | n + 1, h => by
    unfold cntB
    rw [cntB_none (n := n) (fun k hk => h k (by omega)), h n (by omega)]
    rfl
/-- one more -/
theorem cntB_one {P Q : Nat → Bool} {a : Nat} : ∀ {n : Nat}, (∀ k, k ≠ a → P k = Q k) → P a = true → Q a = false → a < n → cntB P n = cntB Q n + 1
  | 0, _, _, _, h => absurd h (Nat.not_lt_zero _)
  | n + 1, h, hp, hq, ha => by
    unfold cntB
    by_cases e : a = n
    · subst e
      rw [hp, hq, cntB_congr (P := P) (Q := Q) (fun k hk => h k (by omega))]
      rfl
    · rw [cntB_one (n := n) h hp hq (by omega), h n (by omega)]
      omega
theorem cntB_leq {P Q : Nat → Bool} : ∀ {n : Nat}, (∀ k, k < n → P k = true → Q k = true) → cntB P n ≤ cntB Q n
  | 0, _ => Nat.le_refl _
  | n + 1, h => by
    have := cntB_leq (n := n) (fun k hk => h k (by omega))
    unfold cntB
    cases hp : P n
    · simp; omega
    · rw [h n (by omega) hp]; simp; omega
/-- elements with keys of their own are as many as there are keys -/
theorem cnt_keys {α : Type} {P : α → Bool} {key : α → Int} {n : Nat} : ∀ (l : List α), (∀ (i j : Nat) (x y : α), l[i]? = some x → l[j]? = some y → P x = true → P y = true → key x = key y → i = j) → (∀ x, x ∈ l → P x = true → 0 ≤ key x ∧ key x < n) → cntB (fun k => l.any fun x => P x && decide (key x = k)) n = l.countP P
  | [], _, _ => cntB_none (fun _ _ => rfl)
  | a :: l, h, hk => by
    have ih := cnt_keys l (fun i j x y hi hj hx hy e => by
      have := h (i + 1) (j + 1) x y (by simpa using hi) (by simpa using hj) hx hy e
      omega) (fun x hx => hk x (List.mem_cons_of_mem _ hx))
    rw [List.countP_cons, ← ih]
    cases hp : P a
    · rw [show (if false = true then 1 else 0 : Nat) = 0 from rfl, Nat.add_zero]
      exact cntB_congr fun k _ => by simp [hp]
    · obtain ⟨h0, hn⟩ := hk a List.mem_cons_self hp
      rw [if_pos rfl]
      refine cntB_one (a := (key a).toNat) (fun k hk' => ?_) ?_ ?_ (by omega)
      · have : ¬ key a = (k : Int) := by omega
        simp [this]
      · have : key a = (((key a).toNat : Nat) : Int) := by omega
        simp only [List.any_cons, hp, Bool.true_and, Bool.or_eq_true, decide_eq_true_eq]
        exact .inl this
      · rw [List.any_eq_false]
        intro x hx
        simp only [Bool.and_eq_true, decide_eq_true_eq, not_and]
        intro hpx e
        obtain ⟨i, hi, e2⟩ := List.mem_iff_getElem.1 hx
        have := h 0 (i + 1) a x rfl (by simp [hi, e2]) hp hpx (by omega)
        omega
theorem onG_none {l : List Tk} {c : Int} (h : onG l c = none) {i : Nat} {x : Tk} (hx : l[i]? = some x) : x.cpu ≠ c := by
  unfold onG at h
  rw [List.findIdx?_eq_none_iff] at h
  have := h x (List.mem_of_getElem? hx)
  simpa using this
theorem onG_is_none {l : List Tk} {c : Int} (h : ∀ (i : Nat) (x : Tk), l[i]? = some x → x.cpu ≠ c) : onG l c = none := by
  unfold onG
  rw [List.findIdx?_eq_none_iff]
  intro x hx
  obtain ⟨i, hi, e⟩ := List.mem_iff_getElem.1 hx
  have := h i x (by rw [List.getElem?_eq_getElem hi, e])
  simpa using this
theorem bestG_none {l : List Tk} : ∀ {k : Nat}, bestG l k = none → ∀ (i : Nat) (x : Tk), i < k → l[i]? = some x → twait x = false
  | 0, _, i, x, hi, _ => absurd hi (Nat.not_lt_zero _)
  | k + 1, h, i, x, hi, hx => by
    cases hk : l[k]? with
    | none =>
      have : i < l.length := (List.getElem?_eq_some_iff.1 hx).1
      have : l.length ≤ k := List.getElem?_eq_none_iff.1 hk
      rw [bestG, hk] at h
      exact bestG_none h i x (by omega) hx
    | some y =>
      rw [bestG_next hk] at h
      cases hw : twait y
      · rw [bestStep_no hw] at h
        by_cases e : i = k
        · subst e
          rw [hk] at hx
          injection hx with hx
          rw [← hx, hw]
        · exact bestG_none h i x (by omega) hx
      · rw [bestStep_yes hw] at h
        cases hb : bestG l k with
        | none => rw [hb] at h; cases h
        | some b =>
          have hbl := (bestG_lt l k b hb).2
          rw [hb, bestOf_some (List.getElem?_eq_getElem hbl)] at h
          split at h <;> cases h
theorem bestG_wait {l : List Tk} : ∀ {k b : Nat}, bestG l k = some b → ∀ x, l[b]? = some x → twait x = true
  | 0, b, h, x, hx => by simp [bestG] at h
  | k + 1, b, h, x, hx => by
    cases hk : l[k]? with
    | none => rw [bestG, hk] at h; exact bestG_wait h x hx
    | some y =>
      rw [bestG_next hk] at h
      cases hw : twait y
      · rw [bestStep_no hw] at h
        exact bestG_wait h x hx
      · rw [bestStep_yes hw] at h
        have key : ∀ q, k = q → l[q]? = some x → twait x = true := fun q e hq => by
          subst e
          rw [hk] at hq
          injection hq with hq
          rw [← hq, hw]
        cases hb : bestG l k with
        | none => rw [hb] at h; injection h with h; exact key b h hx
        | some c =>
          have hbl := (bestG_lt l k c hb).2
          rw [hb, bestOf_some (List.getElem?_eq_getElem hbl)] at h
          split at h
          · injection h with h; exact key b h hx
          · injection h with h; subst h; exact bestG_wait hb x hx
/-- tasks: each is one, and runs on a processor of its own, if it is ready -/
structure Pre (nc : Nat) (l : List Tk) : Prop where
  id : ∀ (i j : Nat) (x y : Tk), l[i]? = some x → l[j]? = some y → x.t = y.t → i = j
  lo : ∀ (i : Nat) (x : Tk), l[i]? = some x → x.cpu < nc
  rd : ∀ (i : Nat) (x : Tk), l[i]? = some x → 0 ≤ x.cpu → x.rd = true
  un : ∀ (i j : Nat) (x y : Tk), l[i]? = some x → l[j]? = some y → 0 ≤ x.cpu → x.cpu = y.cpu → i = j
/-- no processor of the first m is idle while a task waits -/
def FilledTo (m : Nat) (l : List Tk) : Prop := ∀ c : Nat, c < m → onG l c = none → ∀ (i : Nat) (x : Tk), l[i]? = some x → twait x = false
theorem set_at {l : List Tk} {i j : Nat} {x y z : Tk} (hx : l[i]? = some x) (hz : (l.set i y)[j]? = some z) : (j = i ∧ z = y) ∨ (j ≠ i ∧ l[j]? = some z) := by
  rw [List.getElem?_set] at hz
  split at hz
  · rename_i e
    subst e
    split at hz
    · injection hz with hz; exact .inl ⟨rfl, hz.symm⟩
    · cases hz
  · rename_i e; exact .inr ⟨fun q => e q.symm, hz⟩
theorem set_here {l : List Tk} {i : Nat} {x y : Tk} (hx : l[i]? = some x) : (l.set i y)[i]? = some y := by
  have := (List.getElem?_eq_some_iff.1 hx).1
  rw [List.getElem?_set]; simp [this]
theorem set_there {l : List Tk} {i j : Nat} {x y : Tk} (h : j ≠ i) (hx : l[j]? = some x) : (l.set i y)[j]? = some x := by
  rw [List.getElem?_set, if_neg (by omega)]; exact hx
/-- a task that runs nowhere, or waits, is put -/
theorem Pre.set {nc : Nat} {l : List Tk} {i : Nat} {x y : Tk} (h : Pre nc l) (hx : l[i]? = some x) (ht : y.t = x.t) (hc : y.cpu < 0 ∨ (y.cpu < nc ∧ y.rd = true ∧ onG l y.cpu = none)) : Pre nc (l.set i y) := by
  refine ⟨fun a b u v hu hv e => ?_, fun a u hu => ?_, fun a u hu h0 => ?_, fun a b u v hu hv h0 e => ?_⟩
  · rcases set_at hx hu with ⟨rfl, rfl⟩ | ⟨n1, hu2⟩ <;> rcases set_at hx hv with ⟨rfl, rfl⟩ | ⟨n2, hv2⟩
    · rfl
    · exact h.id _ _ x v hx hv2 (ht ▸ e)
    · exact h.id _ _ u x hu2 hx (e.trans ht)
    · exact h.id _ _ u v hu2 hv2 e
  · rcases set_at hx hu with ⟨rfl, rfl⟩ | ⟨n1, hu2⟩
    · rcases hc with q | q
      · omega
      · exact q.1
    · exact h.lo a u hu2
  · rcases set_at hx hu with ⟨rfl, rfl⟩ | ⟨n1, hu2⟩
    · rcases hc with q | q
      · omega
      · exact q.2.1
    · exact h.rd a u hu2 h0
  · rcases set_at hx hu with ⟨rfl, rfl⟩ | ⟨n1, hu2⟩ <;> rcases set_at hx hv with ⟨rfl, rfl⟩ | ⟨n2, hv2⟩
    · rfl
    · rcases hc with q | q
      · omega
      · exact absurd e.symm (onG_none q.2.2 hv2)
    · rcases hc with q | q
      · omega
      · exact absurd e (onG_none q.2.2 hu2)
    · exact h.un a b u v hu2 hv2 h0 e
theorem Pre.fill1 {nc : Nat} {l : List Tk} (h : Pre nc l) {c : Nat} (hc : c < nc) : Pre nc (fill1 l c) := by
  cases h1 : onG l c with
  | some i => rw [fill1_busy h1]; exact h
  | none =>
    cases h2 : bestG l l.length with
    | none => rw [fill1_none h1 h2]; exact h
    | some b =>
      have hb := (bestG_lt l _ b h2).2
      have hx := List.getElem?_eq_getElem hb
      rw [fill1_some h1 h2 hx]
      have hw := bestG_wait h2 _ hx
      unfold twait at hw
      simp only [Bool.and_eq_true, decide_eq_true_eq] at hw
      exact h.set hx rfl (.inr ⟨by show ((c : Nat) : Int) < nc; omega, hw.1, h1⟩)
theorem FilledTo.fill1 {l : List Tk} {c : Nat} (h : FilledTo c l) : FilledTo (c + 1) (Go.Proofs.YtafflkemnniegaaGreatDoor.fill1 l c) := by
  cases h1 : onG l c with
  | some i =>
    rw [fill1_busy h1]
    intro c' hc' ho
    by_cases e : c' = c
    · subst e; rw [h1] at ho; cases ho
    · exact h c' (by omega) ho
  | none =>
    cases h2 : bestG l l.length with
    | none =>
      rw [fill1_none h1 h2]
      intro c' _ _ i x hx
      exact bestG_none h2 i x (List.getElem?_eq_some_iff.1 hx).1 hx
    | some b =>
      have hb := (bestG_lt l _ b h2).2
      have hx := List.getElem?_eq_getElem hb
      rw [fill1_some h1 h2 hx]
      intro c' hc' ho
      by_cases e : c' = c
      · subst e
        exact absurd rfl (onG_none ho (set_here hx))
      · have hw := bestG_wait h2 _ hx
        have : onG l c' = none := onG_is_none fun j z hz e2 => by
          by_cases ej : j = b
          · subst ej
            rw [hx] at hz
            injection hz with hz
            rw [← hz] at e2
            unfold twait at hw
            simp only [Bool.and_eq_true, decide_eq_true_eq] at hw
            omega
          · exact onG_none ho (set_there ej hz) e2
        have := h c' (by omega) this b _ hx
        rw [hw] at this
        cases this
theorem Pre.fillTo {nc : Nat} {l : List Tk} (h : Pre nc l) : ∀ m, m ≤ nc → Pre nc (fillG l m) ∧ FilledTo m (fillG l m)
  | 0, _ => ⟨h, fun c hc => absurd hc (Nat.not_lt_zero _)⟩
  | m + 1, hm => by
    obtain ⟨h1, h2⟩ := Pre.fillTo h m (by omega)
    exact ⟨h1.fill1 hm, h2.fill1⟩
/-- what holds behind each call -/
structure Full (nc : Nat) (l : List Tk) : Prop extends Pre nc l where
  fl : FilledTo nc l
theorem Pre.fill {nc : Nat} {l : List Tk} (h : Pre nc l) : Full nc (fillG l nc) := ⟨(h.fillTo nc (Nat.le_refl _)).1, (h.fillTo nc (Nat.le_refl _)).2⟩
/-- how many processors of the first n have work -/
def busyN (l : List Tk) (n : Nat) : Nat := cntB (fun c => (onG l c).isSome) n
theorem onG_any (l : List Tk) (c : Nat) : (onG l c).isSome = l.any fun x => decide (0 ≤ x.cpu) && decide (x.cpu = c) := by
  cases h : onG l c with
  | none =>
    symm
    rw [Option.isSome_none, List.any_eq_false]
    intro x hx
    obtain ⟨i, hi, e⟩ := List.mem_iff_getElem.1 hx
    have := onG_none h (i := i) (x := x) (by rw [List.getElem?_eq_getElem hi, e])
    simp [this]
  | some i =>
    obtain ⟨x, hx, e⟩ := onG_some h
    symm
    rw [Option.isSome_some, List.any_eq_true]
    exact ⟨x, List.mem_of_getElem? hx, by simp [e]⟩
/-- as many processors have work as there are tasks that are ready, or all -/
theorem Full.busy {nc : Nat} {l : List Tk} (h : Full nc l) : busyN l nc = min nc (l.countP (·.rd)) := by
  have e1 : busyN l nc = l.countP (fun x => decide (0 ≤ x.cpu)) := by
    unfold busyN
    rw [cntB_congr (fun k _ => onG_any l k)]
    refine cnt_keys (P := fun x => decide (0 ≤ x.cpu)) (key := fun x => x.cpu) l (fun i j x y hi hj hx hy e => ?_) (fun x hx h0 => ?_)
    · exact h.un i j x y hi hj (by simpa using hx) e
    · obtain ⟨i, hi, e⟩ := List.mem_iff_getElem.1 hx
      exact ⟨by simpa using h0, h.lo i x (by rw [List.getElem?_eq_getElem hi, e])⟩
  have le1 : l.countP (fun x => decide (0 ≤ x.cpu)) ≤ l.countP (·.rd) := by
    refine List.countP_mono_left fun x hx h0 => ?_
    obtain ⟨i, hi, e⟩ := List.mem_iff_getElem.1 hx
    exact h.rd i x (by rw [List.getElem?_eq_getElem hi, e]) (by simpa using h0)
  have le2 := cntB_le (fun c => (onG l c).isSome) nc
  by_cases hall : ∀ c : Nat, c < nc → (onG l c).isSome = true
  · have : busyN l nc = nc := cntB_all hall
    omega
  · have ⟨c, hc⟩ := Classical.not_forall.1 hall
    have ⟨hc, ho⟩ := Classical.not_imp.1 hc
    have ho : onG l c = none := by simpa using ho
    have hw := h.fl c hc ho
    have : l.countP (fun x => decide (0 ≤ x.cpu)) = l.countP (·.rd) := by
      refine List.countP_congr fun x hx => ?_
      obtain ⟨i, hi, e⟩ := List.mem_iff_getElem.1 hx
      have hx' : l[i]? = some x := by rw [List.getElem?_eq_getElem hi, e]
      have := hw i x hx'
      unfold twait at this
      constructor
      · intro q; exact h.rd i x hx' (by simpa using q)
      · intro q
        rw [q] at this
        simp at this
        simp
        omega
    unfold busyN at e1 ⊢
    omega
end Go.Proofs.YtafflkemnniegaaGreatDoor
