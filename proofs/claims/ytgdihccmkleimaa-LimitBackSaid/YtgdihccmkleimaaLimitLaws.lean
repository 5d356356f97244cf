/- Limits: what is taken can be given back; whatever is done, nobody has more than he may. In plain numbers. -/
import Derived.Test.YtgdihccmkleimaaLimitPlain
namespace Go.Proofs.Ytgdihccmkleimaa.LimitLaw
open BoxLaw (Rg)

theorem ext_getD {a b : List Rg} (h : a.length = b.length) (hg : ∀ i, i < a.length → a.getD i r0 = b.getD i r0) : a = b := by
  apply List.ext_getElem h
  intro i h1 h2
  have := hg i h1
  simpa [List.getD, h1, h2] using this
theorem set_getD (l : List Rg) (i j : Nat) (r : Rg) (hi : i < l.length) : (l.set i r).getD j r0 = if i = j then r else l.getD j r0 := by
  by_cases h : i = j
  · subst h; simp [List.getD, hi]
  · simp [List.getD, List.getElem?_set, h]

theorem addTo_set (S : List Nat) (n : Int) (l : List Rg) (k : Nat) (hk : k < l.length) (hS : k ∉ S) :
    (addTo S n 0 l).set k ⟨(l.getD k r0).a, (l.getD k r0).b + n, (l.getD k r0).n⟩ = addTo (S ++ [k]) n 0 l := by
  refine ext_getD (by simp [addTo_length]) fun i hi => ?_
  have hil : i < l.length := by simpa [addTo_length] using hi
  rw [set_getD _ _ _ _ (by simpa [addTo_length] using hk), addTo_get _ _ _ _ _ hil, addTo_get _ _ _ _ _ hil, Nat.zero_add]
  by_cases h : k = i
  · subst h; simp
  · have : i ≠ k := fun e => h e.symm
    simp [h, this]
theorem addTo_at (S : List Nat) (n : Int) (l : List Rg) (k : Nat) (hk : k < l.length) (hS : k ∉ S) : (addTo S n 0 l).getD k r0 = l.getD k r0 := by
  rw [addTo_get _ _ _ _ _ hk, Nat.zero_add, if_neg hS]
theorem addTo_nil (n : Int) (l : List Rg) : addTo [] n 0 l = l := by
  refine ext_getD (addTo_length _ _ _ _) fun i hi => ?_
  rw [addTo_get _ _ _ _ _ (by simpa [addTo_length] using hi)]; simp

def bump (r : Rg) (n : Int) : Rg := ⟨r.a, r.b + n, r.n⟩
def takeGo (n : Int) : Nat → Int → List Rg → Option (List Rg)
  | 0, _, cur => some cur
  | f + 1, k, cur => if k < 0 then some cur else if (cur.getD k.toNat r0).n < (cur.getD k.toNat r0).b + n then none else takeGo n f (cur.getD k.toNat r0).a (cur.set k.toNat (bump (cur.getD k.toNat r0) n))
def giveGo (n : Int) : Nat → Int → List Rg → List Rg
  | 0, _, cur => cur
  | f + 1, k, cur => if k < 0 then cur else giveGo n f (cur.getD k.toNat r0).a (cur.set k.toNat (bump (cur.getD k.toNat r0) (-n)))
def roomGo (l : List Rg) : Nat → Int → Int → Int
  | 0, _, room => room
  | f + 1, k, room => if k < 0 then room else roomGo l f (l.getD k.toNat r0).a (min room ((l.getD k.toNat r0).n - (l.getD k.toNat r0).b))

section
variable {l : List Rg} (hup : ∀ j, j < l.length → -1 ≤ (l.getD j r0).a ∧ (l.getD j r0).a < j)
include hup
theorem takeGo_eq (n : Int) : ∀ (f : Nat) (k : Int) (S : List Nat), k < l.length → (∀ x ∈ S, k < (x : Int)) → ∀ m, takeGo n f k (addTo S n 0 l) = some m → m = addTo (S ++ chain l f k) n 0 l ∧ ∀ x ∈ chain l f k, (l.getD x r0).b + n ≤ (l.getD x r0).n := by
  intro f
  induction f with
  | zero => intro k S hk hS m h; simp [takeGo] at h; subst h; simp [chain]
  | succ f ih =>
    intro k S hk hS m h
    simp only [takeGo] at h
    simp only [chain]
    by_cases h0 : k < 0
    · rw [if_pos h0] at h ⊢; simp at h; subst h; simp
    · rw [if_neg h0] at h ⊢
      have hkl : k.toNat < l.length := by omega
      have hkS : k.toNat ∉ S := fun hm => by have := hS _ hm; omega
      rw [addTo_at S n l _ hkl hkS] at h
      by_cases hov : (l.getD k.toNat r0).n < (l.getD k.toNat r0).b + n
      · rw [if_pos hov] at h; cases h
      · rw [if_neg hov] at h
        have hu := hup k.toNat hkl
        have hset := addTo_set S n l k.toNat hkl hkS
        rw [bump, hset] at h
        obtain ⟨h1, h2⟩ := ih _ (S ++ [k.toNat]) (by omega) (fun x hx => by
          rcases List.mem_append.1 hx with hx | hx
          · have := hS x hx; omega
          · simp at hx; omega) m h
        refine ⟨by rw [h1]; simp, fun x hx => ?_⟩
        rcases List.mem_cons.1 hx with rfl | hx
        · omega
        · exact h2 x hx
theorem giveGo_eq (n : Int) : ∀ (f : Nat) (k : Int) (S : List Nat), k < l.length → (∀ x ∈ S, k < (x : Int)) → giveGo n f k (addTo S (-n) 0 l) = addTo (S ++ chain l f k) (-n) 0 l := by
  intro f
  induction f with
  | zero => intro k S hk hS; simp [giveGo, chain]
  | succ f ih =>
    intro k S hk hS
    simp only [giveGo, chain]
    by_cases h0 : k < 0
    · rw [if_pos h0, if_pos h0]; simp
    · rw [if_neg h0, if_neg h0]
      have hkl : k.toNat < l.length := by omega
      have hkS : k.toNat ∉ S := fun hm => by have := hS _ hm; omega
      rw [addTo_at S (-n) l _ hkl hkS]
      have hu := hup k.toNat hkl
      have hset := addTo_set S (-n) l k.toNat hkl hkS
      rw [bump, hset, ih _ (S ++ [k.toNat]) (by omega) (fun x hx => by
          rcases List.mem_append.1 hx with hx | hx
          · have := hS x hx; omega
          · simp at hx; omega)]
      simp
end

theorem kids_nonneg {l : List Rg} (h : ∀ r ∈ l, 0 ≤ r.b) (k : Int) : 0 ≤ kidsL l k := by
  induction l with
  | nil => simp [kidsL]
  | cons r t ih =>
    have h1 := h r (by simp)
    have h2 := ih (fun x hx => h x (by simp [hx]))
    simp only [kidsL]; split <;> omega
theorem kids_ge {l : List Rg} (h : ∀ r ∈ l, 0 ≤ r.b) (k : Int) {j : Nat} (hj : j < l.length) (hk : (l.getD j r0).a = k) : (l.getD j r0).b ≤ kidsL l k := by
  induction l generalizing j with
  | nil => simp at hj
  | cons r t ih =>
    have h1 := h r (by simp)
    have h2 := kids_nonneg (fun x hx => h x (by simp [hx])) k (l := t)
    simp only [kidsL]
    cases j with
    | zero => simp at hk ⊢; rw [if_pos hk]; omega
    | succ j =>
      have := ih (fun x hx => h x (by simp [hx])) (j := j) (by simpa using hj) (by simpa using hk)
      simp at this ⊢
      split <;> omega
theorem good_nonneg {l : List Rg} (h : Good l) : ∀ r ∈ l, 0 ≤ r.b := by
  intro r hr
  obtain ⟨j, hj, rfl⟩ := List.mem_iff_getElem.1 hr
  have := (h.num j hj).2.2.1
  simpa [List.getD, hj] using this

/-- a table with n more (or less) all the way up from k -/
theorem good_addTo {l : List Rg} (hg : Good l) (hh : Held l) {k : Int} {n : Int} {f : Nat} (h0 : 0 ≤ k) (hk : k < l.length) (hf : k < f)
    (hle : ∀ x ∈ chain l f k, 0 ≤ (l.getD x r0).b + n ∧ (l.getD x r0).b + n ≤ (l.getD x r0).n) (hkk : kidsL l k.toNat ≤ (l.getD k.toNat r0).b + n) : Good (addTo (chain l f k) n 0 l) ∧ Held (addTo (chain l f k) n 0 l) := by
  refine ⟨⟨fun j hj => ?_, fun j hj => ?_⟩, fun i hi => ?_⟩
  · have hjl : j < l.length := by simpa [addTo_length] using hj
    rw [addTo_get _ _ _ _ _ hjl]
    have := hg.up j hjl
    split <;> exact this
  · have hjl : j < l.length := by simpa [addTo_length] using hj
    rw [addTo_get _ _ _ _ _ hjl, Nat.zero_add]
    have := hg.num j hjl
    split
    · rename_i hm
      have := hle j hm
      simp only; omega
    · exact this
  · have hil : i < l.length := by simpa [addTo_length] using hi
    rw [kids_addTo, cnt_chain hg.up i f k h0 hk hf, addTo_get _ _ _ _ _ hil, Nat.zero_add]
    have hhi := hh i hil
    have hch : chain l (f + 1) k = k.toNat :: chain l f (l.getD k.toNat r0).a := by simp only [chain]; rw [if_neg (by omega)]
    have hu := hg.up k.toNat (by omega)
    rw [chain_fuel hg.up f (f + 1) k hk hf (by omega), hch]
    by_cases h1 : i ∈ chain l f (l.getD k.toNat r0).a
    · rw [if_pos h1, if_pos (List.mem_cons_of_mem _ h1)]
      simp only; omega
    · rw [if_neg h1]
      by_cases h2 : i = k.toNat
      · subst h2
        rw [if_pos (by simp)]
        simp only; omega
      · rw [if_neg (fun hm => (List.mem_cons.1 hm).elim h2 h1)]
        omega

theorem take_good {l m : List Rg} (hc : chkT l = 0) {k n : Int} (h0 : 0 ≤ k) (hk : k < l.length) (hn : 0 ≤ n) (h : takeGo n (l.length + 1) k l = some m) : chkT m = 0 ∧ m = addTo (chain l (l.length + 1) k) n 0 l := by
  obtain ⟨h12, hg, hh⟩ := (chkT_zero l).1 hc
  obtain ⟨h1, h2⟩ := takeGo_eq hg.up n (l.length + 1) k [] hk (by simp) m (by rw [addTo_nil]; exact h)
  rw [List.nil_append] at h1
  refine ⟨?_, h1⟩
  have hkk := hh k.toNat (by omega)
  obtain ⟨g1, g2⟩ := good_addTo hg hh (n := n) (f := l.length + 1) h0 hk (by omega) (fun x hx => by
    have := (hg.num x (chain_lt hg.up _ k hk x hx).2).2.2.1
    exact ⟨by omega, h2 x hx⟩) (by omega)
  rw [chkT_zero, h1, addTo_length]
  exact ⟨h12, g1, g2⟩

/-- on the way up everybody has at least what he has from whom one came -/
theorem chain_has {l : List Rg} (hg : Good l) (hh : Held l) : ∀ (f : Nat) (k : Int), 0 ≤ k → k < l.length → ∀ x ∈ chain l f k, (l.getD k.toNat r0).b ≤ (l.getD x r0).b := by
  intro f
  induction f with
  | zero => intro k _ _ x hx; simp [chain] at hx
  | succ f ih =>
    intro k h0 hk x hx
    simp only [chain] at hx
    rw [if_neg (by omega)] at hx
    rcases List.mem_cons.1 hx with rfl | hx
    · omega
    · have hu := hg.up k.toNat (by omega)
      by_cases hneg : (l.getD k.toNat r0).a < 0
      · have : chain l f (l.getD k.toNat r0).a = [] := by cases f with
          | zero => rfl
          | succ f => simp only [chain]; rw [if_pos hneg]
        rw [this] at hx; simp at hx
      · have h1 := ih _ (by omega) (by omega) x hx
        have h2 := kids_ge (good_nonneg hg) (l.getD k.toNat r0).a (j := k.toNat) (by omega) rfl
        have h3 := hh (l.getD k.toNat r0).a.toNat (by omega)
        rw [show (((l.getD k.toNat r0).a.toNat : Nat) : Int) = (l.getD k.toNat r0).a from by omega] at h3
        omega

theorem give_good {l : List Rg} (hc : chkT l = 0) {k n : Int} (h0 : 0 ≤ k) (hk : k < l.length) (hn : 0 ≤ n) (hle : n ≤ (l.getD k.toNat r0).b - kidsL l k) :
    chkT (giveGo n (l.length + 1) k l) = 0 ∧ giveGo n (l.length + 1) k l = addTo (chain l (l.length + 1) k) (-n) 0 l := by
  obtain ⟨h12, hg, hh⟩ := (chkT_zero l).1 hc
  have h1 := giveGo_eq hg.up n (l.length + 1) k [] hk (by simp)
  rw [addTo_nil, List.nil_append] at h1
  refine ⟨?_, h1⟩
  have hkn := kids_nonneg (good_nonneg hg) k
  obtain ⟨g1, g2⟩ := good_addTo hg hh (n := -n) (f := l.length + 1) h0 hk (by omega) (fun x hx => by
    have a1 := hg.num x (chain_lt hg.up _ k hk x hx).2
    have a2 := chain_has hg hh _ k h0 hk x hx
    exact ⟨by omega, by omega⟩) (by rw [show ((k.toNat : Nat) : Int) = k from by omega]; omega)
  rw [chkT_zero, h1, addTo_length]
  exact ⟨h12, g1, g2⟩

theorem chain_same {l m : List Rg} (ha : ∀ i, (m.getD i r0).a = (l.getD i r0).a) : ∀ (f : Nat) (k : Int), chain m f k = chain l f k := by
  intro f
  induction f with
  | zero => intro k; rfl
  | succ f ih => intro k; simp only [chain, ih, ha]
theorem addTo_a (S : List Nat) (n : Int) (l : List Rg) (i : Nat) : ((addTo S n 0 l).getD i r0).a = (l.getD i r0).a := by
  by_cases hi : i < l.length
  · rw [addTo_get _ _ _ _ _ hi]; split <;> rfl
  · have h1 : (addTo S n 0 l).getD i r0 = r0 := by simp [List.getD, addTo_length, show l.length ≤ i by omega]
    have h2 : l.getD i r0 = r0 := by simp [List.getD, show l.length ≤ i by omega]
    rw [h1, h2]

theorem give_back {l m : List Rg} (hc : chkT l = 0) {k n : Int} (h0 : 0 ≤ k) (hk : k < l.length) (hn : 0 ≤ n) (h : takeGo n (l.length + 1) k l = some m) :
    n ≤ (m.getD k.toNat r0).b - kidsL m k ∧ giveGo n (m.length + 1) k m = l := by
  obtain ⟨hcm, hm⟩ := take_good hc h0 hk hn h
  obtain ⟨h12, hg, hh⟩ := (chkT_zero l).1 hc
  have hml : m.length = l.length := by rw [hm, addTo_length]
  have hch : chain l (l.length + 1) k = k.toNat :: chain l l.length (l.getD k.toNat r0).a := by simp only [chain]; rw [if_neg (by omega)]
  have hu := hg.up k.toNat (by omega)
  have hkids : kidsL m k = kidsL l k := by
    rw [hm, kids_addTo]
    have := cnt_chain hg.up k.toNat (l.length + 1) k h0 hk (by omega)
    rw [show ((k.toNat : Nat) : Int) = k from by omega] at this
    rw [this, if_neg (fun hmem => by have := chain_lt hg.up _ _ (by omega) _ hmem; omega)]
    omega
  have hkb : (m.getD k.toNat r0).b = (l.getD k.toNat r0).b + n := by
    rw [hm, addTo_get _ _ _ _ _ (by omega), Nat.zero_add, if_pos (by rw [hch]; simp)]
  have hhk := hh k.toNat (by omega)
  rw [show ((k.toNat : Nat) : Int) = k from by omega] at hhk
  have hle : n ≤ (m.getD k.toNat r0).b - kidsL m k := by rw [hkids, hkb]; omega
  refine ⟨hle, ?_⟩
  rw [(give_good hcm h0 (by omega) hn hle).2, hml]
  have hsame : chain m (l.length + 1) k = chain l (l.length + 1) k := chain_same (fun i => by rw [hm]; exact addTo_a _ _ _ _) _ _
  rw [hsame]
  refine ext_getD (by rw [addTo_length, hml]) fun i hi => ?_
  have hil : i < m.length := by simpa [addTo_length] using hi
  rw [addTo_get _ _ _ _ _ hil, Nat.zero_add]
  have hmi : m.getD i r0 = if i ∈ chain l (l.length + 1) k then ⟨(l.getD i r0).a, (l.getD i r0).b + n, (l.getD i r0).n⟩ else l.getD i r0 := by
    conv => lhs; rw [hm]
    rw [addTo_get _ _ _ _ _ (by omega), Nat.zero_add]
  by_cases hin : i ∈ chain l (l.length + 1) k
  · rw [if_pos hin, hmi, if_pos hin]
    simp only
    rw [show (l.getD i r0).b + n + -n = (l.getD i r0).b from by omega]
  · rw [if_neg hin, hmi, if_neg hin]

theorem room_sub {l : List Rg} (hg : Good l) (n : Int) (S : List Nat) : ∀ (f : Nat) (k : Int), k < l.length → (∀ x ∈ chain l f k, x ∈ S) → ∀ room, roomGo (addTo S n 0 l) f k (room - n) = roomGo l f k room - n := by
  intro f
  induction f with
  | zero => intro k _ _ room; rfl
  | succ f ih =>
    intro k hk hS room
    simp only [roomGo, chain] at *
    by_cases h0 : k < 0
    · rw [if_pos h0, if_pos h0]
    · rw [if_neg h0] at hS
      rw [if_neg h0, if_neg h0]
      have hkl : k.toNat < l.length := by omega
      have hu := hg.up k.toNat hkl
      have hget : (addTo S n 0 l).getD k.toNat r0 = ⟨(l.getD k.toNat r0).a, (l.getD k.toNat r0).b + n, (l.getD k.toNat r0).n⟩ := by
        rw [addTo_get _ _ _ _ _ hkl, Nat.zero_add, if_pos (hS _ (List.mem_cons_self ..))]
      rw [hget]
      simp only
      rw [← ih _ (by omega) (fun x hx => hS x (List.mem_cons_of_mem _ hx))]
      congr 1; omega

theorem room_law {l m : List Rg} (hc : chkT l = 0) {k n : Int} (h0 : 0 ≤ k) (hk : k < l.length) (hn : 0 ≤ n) (h : takeGo n (l.length + 1) k l = some m) :
    roomGo m (m.length + 1) k 1000000 = roomGo l (l.length + 1) k 1000000 - n := by
  obtain ⟨_, hm⟩ := take_good hc h0 hk hn h
  obtain ⟨h12, hg, hh⟩ := (chkT_zero l).1 hc
  have hml : m.length = l.length := by rw [hm, addTo_length]
  rw [hml]
  have hkl : k.toNat < l.length := by omega
  have hu := hg.up k.toNat hkl
  have hnum := hg.num k.toNat hkl
  have hch : chain l (l.length + 1) k = k.toNat :: chain l l.length (l.getD k.toNat r0).a := by simp only [chain]; rw [if_neg (by omega)]
  obtain ⟨S, hS⟩ : ∃ S, S = chain l (l.length + 1) k := ⟨_, rfl⟩
  rw [← hS] at hm
  have hget : m.getD k.toNat r0 = ⟨(l.getD k.toNat r0).a, (l.getD k.toNat r0).b + n, (l.getD k.toNat r0).n⟩ := by
    rw [hm, addTo_get _ _ _ _ _ hkl, Nat.zero_add, if_pos (by rw [hS, hch]; exact List.mem_cons_self ..)]
  simp only [roomGo]
  rw [if_neg (by omega), if_neg (by omega), hget]
  simp only
  have hs := room_sub hg n S l.length (l.getD k.toNat r0).a (by omega) (fun x hx => by rw [hS, hch]; exact List.mem_cons_of_mem _ hx) (min 1000000 ((l.getD k.toNat r0).n - (l.getD k.toNat r0).b))
  rw [← hm] at hs
  rw [← hs]
  congr 1; omega

def takeR (l : List Rg) (k n : Int) : List Rg × Int :=
  if chkT l = 0 then (if 0 ≤ k ∧ k < l.length ∧ 0 ≤ n ∧ n ≤ 1000000 then (match takeGo n (l.length + 1) k l with | some m => (m, 0) | none => ([], 16)) else ([], 1)) else ([], chkT l)
def giveR (l : List Rg) (k n : Int) : List Rg × Int :=
  if chkT l = 0 then (if 0 ≤ k ∧ k < l.length ∧ 0 ≤ n ∧ n ≤ 1000000 then (if n ≤ (l.getD k.toNat r0).b - kidsL l k then (giveGo n (l.length + 1) k l, 0) else ([], 4)) else ([], 1)) else ([], chkT l)
def roomR (l : List Rg) (k : Int) : Int × Int :=
  if chkT l = 0 then (if 0 ≤ k ∧ k < l.length then (roomGo l (l.length + 1) k 1000000, 0) else (0, 1)) else (0, chkT l)

theorem takeGo_some {n : Int} : ∀ (f : Nat) (k : Int) (cur m : List Rg), takeGo n f k cur = some m → m.length = cur.length := by
  intro f
  induction f with
  | zero => intro k cur m h; simp [takeGo] at h; rw [h]
  | succ f ih =>
    intro k cur m h
    simp only [takeGo] at h
    split at h
    · simp at h; rw [h]
    · split at h
      · cases h
      · have := ih _ _ _ h; simpa using this

/-- the law LimitBack in plain numbers -/
theorem back_law (l : List Rg) (k n : Int) :
    ((takeR l k n).2 ≠ 0 ∧ (takeR l k n).1 = []) ∨
    ((takeR l k n).2 = 0 ∧ giveR (takeR l k n).1 k n = (l, 0) ∧ (roomR l k).2 = 0 ∧ (roomR (takeR l k n).1 k).2 = 0 ∧ chkT (takeR l k n).1 = 0 ∧ (roomR (takeR l k n).1 k).1 = (roomR l k).1 - n ∧ 0 ≤ n ∧ n ≤ 1000000) := by
  by_cases hc : chkT l = 0
  · by_cases hk : 0 ≤ k ∧ k < l.length ∧ 0 ≤ n ∧ n ≤ 1000000
    · have e : takeR l k n = (match takeGo n (l.length + 1) k l with | some m => (m, 0) | none => ([], 16)) := by rw [takeR, if_pos hc, if_pos hk]
      cases h : takeGo n (l.length + 1) k l with
      | none => rw [e, h]; exact .inl ⟨by simp, rfl⟩
      | some m =>
        rw [e, h]
        right
        have hlen := takeGo_some _ _ _ _ h
        obtain ⟨hcm, _⟩ := take_good hc hk.1 hk.2.1 hk.2.2.1 h
        obtain ⟨hle, hgb⟩ := give_back hc hk.1 hk.2.1 hk.2.2.1 h
        have hroom := room_law hc hk.1 hk.2.1 hk.2.2.1 h
        have hk' : 0 ≤ k ∧ k < m.length ∧ 0 ≤ n ∧ n ≤ 1000000 := by rw [hlen]; exact hk
        refine ⟨rfl, ?_, ?_, ?_, hcm, ?_, hk.2.2.1, hk.2.2.2⟩
        · show giveR m k n = _
          rw [giveR, if_pos hcm, if_pos hk', if_pos hle, hgb]
        · rw [roomR, if_pos hc, if_pos ⟨hk.1, hk.2.1⟩]
        · show (roomR m k).2 = 0
          rw [roomR, if_pos hcm, if_pos ⟨hk'.1, hk'.2.1⟩]
        · show (roomR m k).1 = (roomR l k).1 - n
          rw [roomR, if_pos hcm, if_pos ⟨hk'.1, hk'.2.1⟩, roomR, if_pos hc, if_pos ⟨hk.1, hk.2.1⟩]
          exact hroom
    · left; rw [takeR, if_pos hc, if_neg hk]; exact ⟨by simp, rfl⟩
  · left; rw [takeR, if_neg hc]; exact ⟨hc, rfl⟩

/-- the steps of LimitAll -/
theorem take_step (l : List Rg) (k n : Int) : (takeR l k n).2 ≠ 0 ∨ ((takeR l k n).2 = 0 ∧ chkT (takeR l k n).1 = 0 ∧ (takeR l k n).1.length = l.length) := by
  rcases back_law l k n with h | h
  · exact .inl h.1
  · refine .inr ⟨h.1, h.2.2.2.2.1, ?_⟩
    unfold takeR at *
    by_cases hc : chkT l = 0
    · rw [if_pos hc] at *
      by_cases hk : 0 ≤ k ∧ k < l.length ∧ 0 ≤ n ∧ n ≤ 1000000
      · rw [if_pos hk] at *
        cases hh : takeGo n (l.length + 1) k l with
        | none => rw [hh] at h; exact absurd h.1 (by simp)
        | some m => exact takeGo_some _ _ _ _ hh
      · rw [if_neg hk] at *; exact absurd h.1 (by simp)
    · rw [if_neg hc] at *; exact absurd h.1 hc
theorem giveGo_length {n : Int} : ∀ (f : Nat) (k : Int) (cur : List Rg), (giveGo n f k cur).length = cur.length := by
  intro f
  induction f with
  | zero => intro k cur; rfl
  | succ f ih => intro k cur; simp only [giveGo]; split; rfl; rw [ih]; simp
theorem give_step (l : List Rg) (k n : Int) : (giveR l k n).2 ≠ 0 ∨ ((giveR l k n).2 = 0 ∧ chkT (giveR l k n).1 = 0 ∧ (giveR l k n).1.length = l.length) := by
  unfold giveR
  by_cases hc : chkT l = 0
  · rw [if_pos hc]
    by_cases hk : 0 ≤ k ∧ k < l.length ∧ 0 ≤ n ∧ n ≤ 1000000
    · rw [if_pos hk]
      by_cases hle : n ≤ (l.getD k.toNat r0).b - kidsL l k
      · rw [if_pos hle]
        exact .inr ⟨rfl, (give_good hc hk.1 hk.2.1 hk.2.2.1 hle).1, giveGo_length _ _ _⟩
      · rw [if_neg hle]; exact .inl (by simp)
    · rw [if_neg hk]; exact .inl (by simp)
  · rw [if_neg hc]; exact .inl hc
end Go.Proofs.Ytgdihccmkleimaa.LimitLaw
