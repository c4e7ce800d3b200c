/- What the edges' filter (chapter 22's program side) computes, in lists and numbers: the functions of the program, told as plain functions. No program in sight. -/
import Derived.Test.YtnkckjebcpagnaaZh
set_option linter.unusedVariables false
namespace Go.Proofs.Zed
open Go Go.RowKit

def farF (a b : Int) : Int := max (a - b) (b - a)
def pF (xs : List Int) (half i : Int) : Int := gi xs (half - 1 - i)
def qF (xs : List Int) (half i : Int) : Int := gi xs (half + i)
/-- limit, edge, threshold -/
def limitF (level sharp : Int) : Int := max (if 4 < sharp then min (level / 2 ^ 2) (9 - sharp) else if 0 < sharp then min (level / 2 ^ 1) (9 - sharp) else level) 1
def edgeF (level sharp : Int) : Int := 2 * (level + 2) + limitF level sharp
def thrF (level : Int) : Int := level / 2 ^ 4

def roughAt (xs : List Int) (half li : Int) (k : Nat) : Bool := decide (li < farF (pF xs half k) (pF xs half ((k : Int) - 1)) ∨ li < farF (qF xs half k) (qF xs half ((k : Int) - 1)))
/-- Is it rough at one of 1 to k? -/
def roughTo (xs : List Int) (half li : Int) : Nat → Bool
  | 0 => false
  | k + 1 => roughTo xs half li k || roughAt xs half li (k + 1)
def roughF (xs : List Int) (half li ed : Int) : Bool :=
  roughTo xs half li ((min ((xs.length : Int) / 2) 4).toNat - 1) || decide (ed < 2 * farF (pF xs half 0) (qF xs half 0) + farF (pF xs half 1) (qF xs half 1) / 2)
theorem roughTo_true {xs : List Int} {half li : Int} {k : Nat} (h : roughAt xs half li k = true) (h1 : 1 ≤ k) : ∀ m, k ≤ m → roughTo xs half li m = true
  | 0, hm => by omega
  | m + 1, hm => by
    unfold roughTo
    rcases Nat.lt_or_ge m k with hk | hk
    · have : m + 1 = k := by omega
      rw [this, h, Bool.or_true]
    · rw [roughTo_true h h1 m hk, Bool.true_or]

theorem rough_yes {xs : List Int} {half li ed : Int} {k : Nat} (h1 : 1 ≤ k) (h2 : (k : Int) < min ((xs.length : Int) / 2) 4) (h : roughAt xs half li k = true) : roughF xs half li ed = true := by
  unfold roughF
  rw [roughTo_true h h1 _ (by omega), Bool.true_or]
theorem rough_no {xs : List Int} {half li ed : Int} {k : Nat} (h2 : k - 1 = (min ((xs.length : Int) / 2) 4).toNat - 1) (h : roughTo xs half li (k - 1) = false) :
    roughF xs half li ed = decide (ed < 2 * farF (pF xs half 0) (qF xs half 0) + farF (pF xs half 1) (qF xs half 1) / 2) := by
  unfold roughF
  rw [← h2, h, Bool.false_or]
theorem rough_next {xs : List Int} {half li : Int} {k : Nat} (h1 : 1 ≤ k) (h : roughTo xs half li (k - 1) = false) (h2 : roughAt xs half li k = false) : roughTo xs half li (k + 1 - 1) = false := by
  obtain ⟨m, rfl⟩ : ∃ m, k = m + 1 := ⟨k - 1, by omega⟩
  show roughTo xs half li (m + 1) = false
  unfold roughTo
  have h' : roughTo xs half li m = false := h
  rw [h', h2, Bool.false_or]
theorem farF_bd (a b : Int) : farF a b = max (a - b) (b - a) := rfl
theorem pF_bytes {xs : List Int} (hx : Bytes xs) (half i : Int) : 0 ≤ pF xs half i ∧ pF xs half i ≤ 255 := gi_bytes hx _
theorem qF_bytes {xs : List Int} (hx : Bytes xs) (half i : Int) : 0 ≤ qF xs half i ∧ qF xs half i ≤ 255 := gi_bytes hx _

def flatAt (xs : List Int) (half i : Int) : Bool := decide (¬ (1 < farF (pF xs half i) (pF xs half 0) ∨ 1 < farF (qF xs half i) (qF xs half 0)))
def flatTo (xs : List Int) (half a : Int) : Nat → Bool
  | 0 => true
  | k + 1 => flatTo xs half a k && flatAt xs half (a + k)
def flatF (xs : List Int) (half a b : Int) : Bool := flatTo xs half a (b + 1 - a).toNat
theorem flatTo_false {xs : List Int} {half a : Int} {k : Nat} (h : flatAt xs half (a + k) = false) : ∀ m, k < m → flatTo xs half a m = false
  | 0, hm => by omega
  | m + 1, hm => by
    unfold flatTo
    rcases Nat.lt_or_ge k m with hk | hk
    · rw [flatTo_false h m hk, Bool.false_and]
    · have : m = k := by omega
      rw [this, h, Bool.and_false]

def wideV (xs : List Int) (half n i j : Int) : Int := gi xs (half + clipF (i + j) (-n - 1) n)
def sumTo (xs : List Int) (half n mid i : Int) : Nat → Int
  | 0 => 0
  | k + 1 => if -mid ≤ -n + (k : Int) ∧ -n + (k : Int) ≤ mid then sumTo xs half n mid i k + wideV xs half n i (-n + k) + wideV xs half n i (-n + k) else sumTo xs half n mid i k + wideV xs half n i (-n + k)
def wideTo (xs : List Int) (half n mid sh : Int) : Nat → List Int
  | 0 => xs
  | k + 1 => (wideTo xs half n mid sh k).set (half + (-n + (k : Int))).toNat ((sumTo xs half n mid (-n + k) (2 * n + 1).toNat + 1 * 2 ^ (sh - 1).toNat) / 2 ^ sh.toNat % 256)
def wideF (xs : List Int) (half n mid sh : Int) : List Int := wideTo xs half n mid sh (2 * n).toNat
theorem wideTo_length (xs : List Int) (half n mid sh : Int) : ∀ k, (wideTo xs half n mid sh k).length = xs.length
  | 0 => rfl
  | k + 1 => by unfold wideTo; rw [List.length_set, wideTo_length xs half n mid sh k]
theorem sumTo_bd {xs : List Int} (hx : Bytes xs) (half n mid i : Int) : ∀ k : Nat, 0 ≤ sumTo xs half n mid i k ∧ sumTo xs half n mid i k ≤ 510 * k
  | 0 => by simp [sumTo]
  | k + 1 => by
    have ih := sumTo_bd hx half n mid i k
    have hv := gi_bytes hx (half + clipF (i + (-n + (k : Int))) (-n - 1) n)
    unfold sumTo wideV
    split <;> omega
theorem wideTo_bytes {xs : List Int} (hx : Bytes xs) (half n mid sh : Int) : ∀ k, Bytes (wideTo xs half n mid sh k)
  | 0 => hx
  | k + 1 => by unfold wideTo; exact (wideTo_bytes hx half n mid sh k).set (emod_byte _)

def byteF (v : Int) : Int := clipF v (-128) 127
def steepF (xs : List Int) (half th : Int) : Bool := decide (th < farF (pF xs half 1) (pF xs half 0) ∨ th < farF (qF xs half 1) (qF xs half 0))
def fF (xs : List Int) (half th : Int) : Int := byteF ((if steepF xs half th = true then byteF (pF xs half 1 - qF xs half 1) else 0) + 3 * (qF xs half 0 - pF xs half 0))
def aF (xs : List Int) (half th : Int) : Int := byteF (fF xs half th + 4) / 2 ^ 3
def setF (xs : List Int) (half i v : Int) : List Int := xs.set (half + i).toNat (clipF v 0 255)
def narrowF (xs : List Int) (half th : Int) : List Int :=
  let f := fF xs half th
  let a := aF xs half th
  let o := setF (setF xs half 0 (qF xs half 0 - a)) half (-1) (pF xs half 0 + byteF (f + 3) / 2 ^ 3)
  if steepF xs half th = true then o else
    let d := (a + 1) / 2 ^ 1
    setF (setF o half 1 (qF xs half 1 - d)) half (-2) (pF xs half 1 + d)
def filterF (xs : List Int) (half li ed th : Int) : List Int :=
  if roughF xs half li ed = true then xs
  else if (xs.length : Int) = 6 ∧ flatF xs half 1 2 = true then wideF xs half 2 1 3
  else if (xs.length : Int) = 14 ∧ flatF xs half 1 6 = true then wideF xs half 6 1 4
  else if 8 ≤ (xs.length : Int) ∧ flatF xs half 1 3 = true then wideF xs half 3 0 3
  else narrowF xs half th
theorem byteF_bd (v : Int) : byteF v = min (max v (-128)) 127 := rfl
theorem setF_length (xs : List Int) (half i v : Int) : (setF xs half i v).length = xs.length := by simp [setF]
theorem setF_bytes {xs : List Int} (hx : Bytes xs) (half i v : Int) : Bytes (setF xs half i v) := hx.set (clip_byte v)
theorem narrowF_length (xs : List Int) (half th : Int) : (narrowF xs half th).length = xs.length := by
  unfold narrowF; simp only []; split <;> simp [setF_length]
theorem narrowF_bytes {xs : List Int} (hx : Bytes xs) (half th : Int) : Bytes (narrowF xs half th) := by
  unfold narrowF; simp only []; split <;> repeat' apply setF_bytes <;> try exact hx
theorem filterF_length (xs : List Int) (half li ed th : Int) : (filterF xs half li ed th).length = xs.length := by
  unfold filterF wideF
  split
  · rfl
  · split
    · exact wideTo_length ..
    · split
      · exact wideTo_length ..
      · split
        · exact wideTo_length ..
        · exact narrowF_length ..
theorem filterF_bytes {xs : List Int} (hx : Bytes xs) (half li ed th : Int) : Bytes (filterF xs half li ed th) := by
  unfold filterF wideF
  split
  · exact hx
  · split
    · exact wideTo_bytes hx _ _ _ _ _
    · split
      · exact wideTo_bytes hx _ _ _ _ _
      · split
        · exact wideTo_bytes hx _ _ _ _ _
        · exact narrowF_bytes hx _ _

/-- how many taps a reach has -/
def tapsF (r : Int) (co : Bool) : Int := if r < 8 then 4 else if co = true then 6 else if r < 16 then 8 else 14
theorem tapsF_cases (r : Int) (co : Bool) : (tapsF r co = 4 ∧ r < 8) ∨ (tapsF r co = 6 ∧ 8 ≤ r) ∨ (tapsF r co = 8 ∧ 8 ≤ r ∧ r < 16) ∨ (tapsF r co = 14 ∧ 16 ≤ r) := by
  unfold tapsF; split
  · simp_all
  · split
    · simp_all
    · split <;> simp_all
/-- What may be: a plane and its cells. -/
def mayP (W H : Int) (n : Nat) (mW mH : Int) (tx : List Int) (nt ni nq : Nat) : Prop :=
  ¬ (((((checkF W H n ≠ 0) ∨ (W % 4 ≠ 0)) ∨ (H % 4 ≠ 0)) ∨ (mW ≠ W / 4)) ∨ (mH ≠ H / 4)) ∧
  (((((nt : Int) = mW * mH) ∧ ((ni : Int) = mW * mH)) ∧ ((nq : Int) = mW * mH)) ∧ ((!(tx.any (fun x => decide (¬ x ∈ ([4, 8, 16, 32, 64] : List Int))))) = true))
instance (W H : Int) (n : Nat) (mW mH : Int) (tx : List Int) (nt ni nq : Nat) : Decidable (mayP W H n mW mH tx nt ni nq) := by unfold mayP; infer_instance
theorem mayP.bad {W H : Int} {n : Nat} {mW mH : Int} {tx : List Int} {nt ni nq : Nat} (h : ((((checkF W H n ≠ 0) ∨ (W % 4 ≠ 0)) ∨ (H % 4 ≠ 0)) ∨ (mW ≠ W / 4)) ∨ (mH ≠ H / 4)) : ¬ mayP W H n mW mH tx nt ni nq := fun k => k.1 h
theorem not_any {xs : List Int} {p : Int → Bool} (h : (!xs.any p) = true) {x : Int} (hx : x ∈ xs) : p x = false := by
  cases hp : p x with
  | false => rfl
  | true => rw [List.any_eq_true.2 ⟨x, hx, hp⟩] at h; cases h
theorem mayP.facts {W H : Int} {n : Nat} {mW mH : Int} {tx : List Int} {nt ni nq : Nat} (h : mayP W H n mW mH tx nt ni nq) :
    1 ≤ W ∧ W ≤ 512 ∧ 1 ≤ H ∧ H ≤ 512 ∧ (n : Int) = W * H ∧ W = 4 * mW ∧ H = 4 * mH ∧ (nt : Int) = mW * mH ∧ (ni : Int) = mW * mH ∧ (nq : Int) = mW * mH ∧
    ∀ x ∈ tx, x = 4 ∨ x = 8 ∨ x = 16 ∨ x = 32 ∨ x = 64 := by
  obtain ⟨h1, ⟨⟨⟨h2, h3⟩, h4⟩, h5⟩⟩ := h
  rcases checkF_iff W H n with hc | hc
  · simp only [not_or, Decidable.not_not] at h1
    refine ⟨hc.2.1, hc.2.2.1, hc.2.2.2.1, hc.2.2.2.2.1, hc.2.2.2.2.2, by omega, by omega, h2, h3, h4, fun x hx => ?_⟩
    have := of_decide_eq_false (not_any h5 hx)
    simpa using Decidable.not_not.1 this
  · exact absurd (Or.inl (Or.inl (Or.inl (Or.inl (by rw [hc.1]; decide))))) h1

/-- What a line takes of the samples: j of them are taken. -/
def gathTo (pix : List Int) (first across : Int) (N : Nat) : Nat → List Int
  | 0 => List.replicate N 0
  | j + 1 => (gathTo pix first across N j).set j (gi pix (first + (j : Int) * across))
def scatTo (f pix : List Int) (first across : Int) : Nat → List Int
  | 0 => pix
  | j + 1 => (scatTo f pix first across j).set (first + (j : Int) * across).toNat (gi f j)
def lineStep (pix : List Int) (first across n li ed th : Int) : List Int :=
  scatTo (filterF (gathTo pix first across n.toNat n.toNat) (n / 2) li ed th) pix first across n.toNat
def cellStep (pix : List Int) (first0 along across n li ed th : Int) : Nat → List Int
  | 0 => pix
  | k + 1 => lineStep (cellStep pix first0 along across n li ed th k) (first0 + (k : Int) * along - n / 2 * across) across n li ed th
def passStep (up co : Bool) (W H mW : Int) (tx ids : List Int) (qs : List Bool) (li ed th : Int) (pix : List Int) (k : Nat) : List Int :=
  if ((bif up then 4 * ((k : Int) % mW) else 4 * ((k : Int) / mW)) = 0 ∨ (bif up then 4 * ((k : Int) % mW) else 4 * ((k : Int) / mW)) % gi tx k ≠ 0) ∨
      ((gi ids k = gi ids ((k : Int) - bif up then 1 else mW) ∧ gb qs k = true) ∧ gb qs ((k : Int) - bif up then 1 else mW) = true) then pix
  else cellStep pix (4 * ((k : Int) / mW) * W + 4 * ((k : Int) % mW)) (bif up then W else 1) (bif up then 1 else W)
    (tapsF (min (min (min (gi tx k) (gi tx ((k : Int) - bif up then 1 else mW))) (bif up then 4 * ((k : Int) % mW) else 4 * ((k : Int) / mW))) ((bif up then W else H) - (bif up then 4 * ((k : Int) % mW) else 4 * ((k : Int) / mW)))) co) li ed th 4
def passTo (up co : Bool) (W H mW : Int) (tx ids : List Int) (qs : List Bool) (li ed th : Int) (pix : List Int) : Nat → List Int
  | 0 => pix
  | k + 1 => passStep up co W H mW tx ids qs li ed th (passTo up co W H mW tx ids qs li ed th pix k) k
theorem gathTo_length (pix : List Int) (first across : Int) (N : Nat) : ∀ j, (gathTo pix first across N j).length = N
  | 0 => by simp [gathTo]
  | j + 1 => by unfold gathTo; rw [List.length_set, gathTo_length pix first across N j]
theorem gathTo_bytes {pix : List Int} (h : Bytes pix) (first across : Int) (N : Nat) : ∀ j, Bytes (gathTo pix first across N j)
  | 0 => Bytes.rep (by decide)
  | j + 1 => by unfold gathTo; exact (gathTo_bytes h first across N j).set (gi_bytes h _)
theorem scatTo_length (f pix : List Int) (first across : Int) : ∀ j, (scatTo f pix first across j).length = pix.length
  | 0 => rfl
  | j + 1 => by unfold scatTo; rw [List.length_set, scatTo_length f pix first across j]
theorem scatTo_bytes {f pix : List Int} (hf : Bytes f) (h : Bytes pix) (first across : Int) : ∀ j, Bytes (scatTo f pix first across j)
  | 0 => h
  | j + 1 => by unfold scatTo; exact (scatTo_bytes hf h first across j).set (gi_bytes hf _)
theorem lineStep_length (pix : List Int) (first across n li ed th : Int) : (lineStep pix first across n li ed th).length = pix.length := scatTo_length ..
theorem lineStep_bytes {pix : List Int} (h : Bytes pix) (first across n li ed th : Int) : Bytes (lineStep pix first across n li ed th) := scatTo_bytes (filterF_bytes (gathTo_bytes h _ _ _ _) _ _ _ _) h _ _ _
theorem cellStep_length (pix : List Int) (first0 along across n li ed th : Int) : ∀ k, (cellStep pix first0 along across n li ed th k).length = pix.length
  | 0 => rfl
  | k + 1 => by unfold cellStep; rw [lineStep_length, cellStep_length pix first0 along across n li ed th k]
theorem cellStep_bytes {pix : List Int} (h : Bytes pix) (first0 along across n li ed th : Int) : ∀ k, Bytes (cellStep pix first0 along across n li ed th k)
  | 0 => h
  | k + 1 => by unfold cellStep; exact lineStep_bytes (cellStep_bytes h first0 along across n li ed th k) _ _ _ _ _ _
theorem passStep_length (up co : Bool) (W H mW : Int) (tx ids : List Int) (qs : List Bool) (li ed th : Int) (pix : List Int) (k : Nat) : (passStep up co W H mW tx ids qs li ed th pix k).length = pix.length := by
  unfold passStep; split
  · rfl
  · exact cellStep_length ..
theorem passStep_bytes (up co : Bool) (W H mW : Int) (tx ids : List Int) (qs : List Bool) (li ed th : Int) {pix : List Int} (h : Bytes pix) (k : Nat) : Bytes (passStep up co W H mW tx ids qs li ed th pix k) := by
  unfold passStep; split
  · exact h
  · exact cellStep_bytes h _ _ _ _ _ _ _ _
theorem passTo_length (up co : Bool) (W H mW : Int) (tx ids : List Int) (qs : List Bool) (li ed th : Int) (pix : List Int) : ∀ k, (passTo up co W H mW tx ids qs li ed th pix k).length = pix.length
  | 0 => rfl
  | k + 1 => by unfold passTo; rw [passStep_length, passTo_length up co W H mW tx ids qs li ed th pix k]
theorem passTo_bytes (up co : Bool) (W H mW : Int) (tx ids : List Int) (qs : List Bool) (li ed th : Int) {pix : List Int} (h : Bytes pix) : ∀ k, Bytes (passTo up co W H mW tx ids qs li ed th pix k)
  | 0 => h
  | k + 1 => by unfold passTo; exact passStep_bytes _ _ _ _ _ _ _ _ _ _ _ (passTo_bytes up co W H mW tx ids qs li ed th h k) k
@[reducible] def passBad (W H : Int) (n : Nat) (mW mH : Int) (tx : List Int) (nt ni nq : Nat) (lv sh : Int) : Prop := ((¬ mayP W H n mW mH tx nt ni nq) ∨ (¬ (0 ≤ lv ∧ lv ≤ 63))) ∨ (¬ (0 ≤ sh ∧ sh ≤ 7))
def passF (up co : Bool) (W H mW : Int) (tx ids : List Int) (qs : List Bool) (lv sh : Int) (pix : List Int) : List Int :=
  if lv = 0 then pix else passTo up co W H mW tx ids qs (limitF lv sh) (edgeF lv sh) (thrF lv) pix tx.length
theorem passF_length (up co : Bool) (W H mW : Int) (tx ids : List Int) (qs : List Bool) (lv sh : Int) (pix : List Int) : (passF up co W H mW tx ids qs lv sh pix).length = pix.length := by
  unfold passF; split
  · rfl
  · exact passTo_length ..
theorem passF_bytes (up co : Bool) (W H mW : Int) (tx ids : List Int) (qs : List Bool) (lv sh : Int) {pix : List Int} (h : Bytes pix) : Bytes (passF up co W H mW tx ids qs lv sh pix) := by
  unfold passF; split
  · exact h
  · exact passTo_bytes _ _ _ _ _ _ _ _ _ _ _ h _
theorem pass_ok {W H : Int} {n : Nat} {mW mH : Int} {tx : List Int} {nt ni nq : Nat} {lv sh : Int} (h : ¬ passBad W H n mW mH tx nt ni nq lv sh) :
    1 ≤ W ∧ W ≤ 512 ∧ 1 ≤ H ∧ H ≤ 512 ∧ (n : Int) = W * H ∧ W = 4 * mW ∧ H = 4 * mH ∧ (nt : Int) = mW * mH ∧ (ni : Int) = mW * mH ∧ (nq : Int) = mW * mH ∧ (∀ x ∈ tx, x = 4 ∨ x = 8 ∨ x = 16 ∨ x = 32 ∨ x = 64) ∧ (0 ≤ lv ∧ lv ≤ 63) ∧ (0 ≤ sh ∧ sh ≤ 7) := by
  simp only [passBad, not_or, Decidable.not_not] at h
  obtain ⟨a, b, c, d, e, f, g, i, j, k, l⟩ := h.1.1.facts
  exact ⟨a, b, c, d, e, f, g, i, j, k, l, h.1.2, h.2⟩
theorem passTo_skip {up co : Bool} {W H mW : Int} {tx ids : List Int} {qs : List Bool} {li ed th : Int} {pix : List Int} {k : Nat}
    (h : ((bif up then 4 * ((k : Int) % mW) else 4 * ((k : Int) / mW)) = 0 ∨ (bif up then 4 * ((k : Int) % mW) else 4 * ((k : Int) / mW)) % gi tx k ≠ 0) ∨
      ((gi ids k = gi ids ((k : Int) - bif up then 1 else mW) ∧ gb qs k = true) ∧ gb qs ((k : Int) - bif up then 1 else mW) = true)) :
    passTo up co W H mW tx ids qs li ed th pix (k + 1) = passTo up co W H mW tx ids qs li ed th pix k := by
  rw [passTo, passStep, if_pos h]
theorem passTo_go {up co : Bool} {W H mW : Int} {tx ids : List Int} {qs : List Bool} {li ed th : Int} {pix : List Int} {k : Nat}
    (h : ¬ (((bif up then 4 * ((k : Int) % mW) else 4 * ((k : Int) / mW)) = 0 ∨ (bif up then 4 * ((k : Int) % mW) else 4 * ((k : Int) / mW)) % gi tx k ≠ 0) ∨
      ((gi ids k = gi ids ((k : Int) - bif up then 1 else mW) ∧ gb qs k = true) ∧ gb qs ((k : Int) - bif up then 1 else mW) = true))) :
    passTo up co W H mW tx ids qs li ed th pix (k + 1) = cellStep (passTo up co W H mW tx ids qs li ed th pix k) (4 * ((k : Int) / mW) * W + 4 * ((k : Int) % mW)) (bif up then W else 1) (bif up then 1 else W)
    (tapsF (min (min (min (gi tx k) (gi tx ((k : Int) - bif up then 1 else mW))) (bif up then 4 * ((k : Int) % mW) else 4 * ((k : Int) / mW))) ((bif up then W else H) - (bif up then 4 * ((k : Int) % mW) else 4 * ((k : Int) / mW)))) co) li ed th 4 := by
  rw [passTo, passStep, if_neg h]
/-- What may not be, of an edge. -/
@[reducible] def edgeBad (xs : List Int) (taps lv sh : Int) : Prop := (((¬ taps ∈ ([4, 6, 8, 14] : List Int)) ∨ ((xs.length : Int) ≠ taps)) ∨ (¬ (0 ≤ lv ∧ lv ≤ 63))) ∨ (¬ (0 ≤ sh ∧ sh ≤ 7))
theorem edge_ok {xs : List Int} {taps lv sh : Int} (h : ¬ edgeBad xs taps lv sh) : (taps = 4 ∨ taps = 6 ∨ taps = 8 ∨ taps = 14) ∧ (xs.length : Int) = taps ∧ (0 ≤ lv ∧ lv ≤ 63) ∧ 0 ≤ sh ∧ sh ≤ 7 := by
  simp only [edgeBad, not_or, Decidable.not_not] at h
  exact ⟨by simpa using h.1.1.1, h.1.1.2, h.1.2, h.2⟩
def edgeE (xs : List Int) (taps lv sh : Int) : Int := if edgeBad xs taps lv sh then 2 else 0
def edgeOut (xs : List Int) (taps lv sh : Int) : List Int := if edgeBad xs taps lv sh then [] else if lv = 0 then xs else filterF xs (taps / 2) (limitF lv sh) (edgeF lv sh) (thrF lv)
theorem edgeOut_bytes {xs : List Int} (h : Bytes xs) (taps lv sh : Int) : Bytes (edgeOut xs taps lv sh) := by
  unfold edgeOut
  split
  · exact Bytes.nil
  · split
    · exact h
    · exact filterF_bytes h _ _ _ _
/-- a plane whose samples are some, over and over -/
def fitV (xs : List Int) (k : Nat) : Int := if (0 : Int) < (xs.length : Int) then gi xs ((k : Int) % (xs.length : Int)) else 0
def fitTo (xs : List Int) : Nat → List Int
  | 0 => []
  | k + 1 => fitTo xs k ++ [fitV xs k]
theorem fitTo_length (xs : List Int) : ∀ k, (fitTo xs k).length = k
  | 0 => rfl
  | k + 1 => by rw [fitTo, List.length_append, fitTo_length xs k]; rfl
theorem fitV_byte {xs : List Int} (h : Bytes xs) (k : Nat) : 0 ≤ fitV xs k ∧ fitV xs k ≤ 255 := by
  unfold fitV; split
  · exact gi_bytes h _
  · decide
theorem fitTo_bytes {xs : List Int} (h : Bytes xs) : ∀ k, Bytes (fitTo xs k)
  | 0 => Bytes.nil
  | k + 1 => by
    rw [fitTo]
    refine (fitTo_bytes h k).append fun x hx => ?_
    rw [List.mem_singleton] at hx
    rw [hx]; exact fitV_byte h k
/-- the blocks' numbers of cells, told row for row -/
def idAt (M : Nat) (n : Int) (j : Nat) : Int := ((j / M : Nat) : Int) / n * 1000 + ((j % M : Nat) : Int) / n
def idsTo (M : Nat) (n : Int) : Nat → List Int
  | 0 => []
  | j + 1 => idsTo M n j ++ [idAt M n j]
theorem idsTo_length (M : Nat) (n : Int) : ∀ k, (idsTo M n k).length = k
  | 0 => rfl
  | k + 1 => by rw [idsTo, List.length_append, idsTo_length M n k]; rfl
theorem idAt_at {M : Nat} {n : Int} {y x : Nat} (h : x < M) : idAt M n (y * M + x) = (y : Int) / n * 1000 + (x : Int) / n := by
  have h1 : (y * M + x) / M = y := by rw [Nat.add_comm, Nat.add_mul_div_right _ _ (by omega), Nat.div_eq_of_lt h, Nat.zero_add]
  have h2 : (y * M + x) % M = x := by rw [Nat.add_comm, Nat.add_mul_mod_self_right, Nat.mod_eq_of_lt h]
  rw [idAt, h1, h2]
theorem ids_next {M : Nat} {n : Int} {y x : Nat} (h : x < M) : idsTo M n (y * M + (x + 1)) = idsTo M n (y * M + x) ++ [(y : Int) / n * 1000 + (x : Int) / n] := by
  rw [← Nat.add_assoc, idsTo, idAt_at h]
theorem rep_next {α : Type} {a : α} {j x : Nat} : List.replicate (j + (x + 1)) a = List.replicate (j + x) a ++ [a] := by
  rw [← Nat.add_assoc, List.replicate_succ']
end Go.Proofs.Zed
