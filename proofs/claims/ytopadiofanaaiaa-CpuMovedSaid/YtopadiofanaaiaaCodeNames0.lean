/- What an operation is called, and which fields it has (printed by wip/tools/gen_code.py). No program here. -/
import Derived.Test.YtopadiofanaaiaaCodePlain
namespace Go.Proofs.Ytopadiofanaaiaa.CodeLaw

def rowS (op : Int) : ByteArray × Int :=
  if op = 1 then (⟨#[104, 97, 108, 116]⟩, 0) else
  if op = 2 then (⟨#[115, 101, 116]⟩, 5) else
  if op = 3 then (⟨#[104, 105, 103, 104]⟩, 5) else
  if op = 4 then (⟨#[109, 111, 118, 101]⟩, 3) else
  if op = 5 then (⟨#[97, 100, 100]⟩, 3) else
  if op = 6 then (⟨#[115, 117, 98]⟩, 3) else
  if op = 7 then (⟨#[109, 117, 108]⟩, 3) else
  if op = 8 then (⟨#[100, 105, 118]⟩, 3) else
  if op = 9 then (⟨#[97, 110, 100]⟩, 3) else
  if op = 10 then (⟨#[111, 114]⟩, 3) else
  if op = 11 then (⟨#[120, 111, 114]⟩, 3) else
  if op = 12 then (⟨#[108, 101, 102, 116]⟩, 3) else
  if op = 13 then (⟨#[114, 105, 103, 104, 116]⟩, 3) else
  if op = 14 then (⟨#[112, 108, 117, 115]⟩, 7) else
  if op = 15 then (⟨#[108, 111, 97, 100]⟩, 7) else
  if op = 16 then (⟨#[108, 111, 97, 100, 98]⟩, 7) else
  if op = 17 then (⟨#[115, 116, 111, 114, 101]⟩, 7) else
  if op = 18 then (⟨#[115, 116, 111, 114, 101, 98]⟩, 7) else
  if op = 19 then (⟨#[106, 117, 109, 112]⟩, 4) else
  if op = 20 then (⟨#[122, 101, 114, 111]⟩, 5) else
  if op = 21 then (⟨#[108, 101, 115, 115]⟩, 7) else
  if op = 22 then (⟨#[99, 97, 108, 108]⟩, 5) else
  if op = 23 then (⟨#[98, 97, 99, 107]⟩, 1) else
  if op = 24 then (⟨#[115, 121, 115]⟩, 0) else
  if op = 25 then (⟨#[115, 119, 97, 112]⟩, 7) else
  if op = 26 then (⟨#[104, 111, 109, 101]⟩, 1) else
  (⟨#[]⟩, 0)
/-- the fields alone -/
def fldS (op : Int) : Int := (rowS op).2
theorem known_cases {op : Int} (h : 1 ≤ op ∧ op ≤ 26) : op = 1 ∨ op = 2 ∨ op = 3 ∨ op = 4 ∨ op = 5 ∨ op = 6 ∨ op = 7 ∨ op = 8 ∨ op = 9 ∨ op = 10 ∨ op = 11 ∨ op = 12 ∨ op = 13 ∨ op = 14 ∨ op = 15 ∨ op = 16 ∨ op = 17 ∨ op = 18 ∨ op = 19 ∨ op = 20 ∨ op = 21 ∨ op = 22 ∨ op = 23 ∨ op = 24 ∨ op = 25 ∨ op = 26 := by omega
theorem rowS_none {op : Int} (h : ¬ (1 ≤ op ∧ op ≤ 26)) : rowS op = (⟨#[]⟩, 0) := by
  unfold rowS
  rw [if_neg (by omega)]
  rw [if_neg (by omega)]
  rw [if_neg (by omega)]
  rw [if_neg (by omega)]
  rw [if_neg (by omega)]
  rw [if_neg (by omega)]
  rw [if_neg (by omega)]
  rw [if_neg (by omega)]
  rw [if_neg (by omega)]
  rw [if_neg (by omega)]
  rw [if_neg (by omega)]
  rw [if_neg (by omega)]
  rw [if_neg (by omega)]
  rw [if_neg (by omega)]
  rw [if_neg (by omega)]
  rw [if_neg (by omega)]
  rw [if_neg (by omega)]
  rw [if_neg (by omega)]
  rw [if_neg (by omega)]
  rw [if_neg (by omega)]
  rw [if_neg (by omega)]
  rw [if_neg (by omega)]
  rw [if_neg (by omega)]
  rw [if_neg (by omega)]
  rw [if_neg (by omega)]
  rw [if_neg (by omega)]
end Go.Proofs.Ytopadiofanaaiaa.CodeLaw
