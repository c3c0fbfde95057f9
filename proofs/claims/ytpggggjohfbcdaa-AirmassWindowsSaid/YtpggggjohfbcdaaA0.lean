/- Plain maths of hour angles and heights. -/
namespace Go.Proofs.Ytpggggjohfbcdaa

/-- the sidereal angle of a moment -/
def sid (m : Int) : Int := (60 * (m % 96) + 16 * (m / 96)) % 5760
/-- the hour angle of a column -/
def hr (c m : Int) : Int := (sid m - 180 * c - 90 + 2880 + 5760) % 5760 - 2880
/-- absolute value -/
def ab (n : Int) : Int := if n < 0 then -n else n
/-- the height of a tile -/
def ht (s t m : Int) : Int := 900 - 50 * ab (t / 32 - s) - 5 * ab (hr (t % 32) m) / 16

theorem sid_bd (m : Int) : 0 ≤ sid m ∧ sid m < 5760 := by unfold sid; omega
theorem hr_bd (c m : Int) : -2880 ≤ hr c m ∧ hr c m ≤ 2879 := by unfold hr; omega
theorem ab_bd (n k : Int) (h0 : -k ≤ n) (h1 : n ≤ k) : 0 ≤ ab n ∧ ab n ≤ k := by unfold ab; split <;> omega
theorem ab_max (n : Int) : ab n = max n (-n) := by unfold ab; split <;> omega
theorem ht_bd (s t m : Int) (h0 : 0 ≤ s) (h1 : s < 16) (h2 : 0 ≤ t) (h3 : t < 512) : -750 ≤ ht s t m ∧ ht s t m ≤ 900 := by
  have a := ab_bd (t / 32 - s) 15 (by omega) (by omega)
  have b := hr_bd (t % 32) m
  have c := ab_bd (hr (t % 32) m) 2880 (by omega) (by omega)
  unfold ht
  omega

end Go.Proofs.Ytpggggjohfbcdaa
