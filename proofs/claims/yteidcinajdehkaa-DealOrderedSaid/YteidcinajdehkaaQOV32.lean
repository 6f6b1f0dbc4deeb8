/-
  THE ENGINE, PART 32: data of a known type, opened.
-/
import Derived.Test.YteidcinajdehkaaQOV31
set_option linter.unusedSimpArgs false
set_option linter.unusedVariables false
namespace Go.V
section
variable {T : Tab} {t : TypeId} {qs : List PV} {i : TI}
theorem PT.int' (h : PT T t qs) (hi : tl T t = some i) {k : IntKind} (hk : i.k = .int k) : ∃ n, qs = [.int k n] ∧ k.min ≤ n ∧ n ≤ k.max := by
  cases h with
  | int h1 h2 h3 h4 => rw [hi] at h1; cases h1; rw [hk] at h2; cases h2; exact ⟨_, rfl, h3, h4⟩
  | bool h1 h2 => rw [hi] at h1; cases h1; rw [hk] at h2; cases h2
  | nl h1 h2 => rw [hi] at h1; cases h1; rw [hk] at h2; cases h2
  | lst h1 h2 => rw [hi] at h1; cases h1; rw [hk] at h2; cases h2
  | arr h1 h2 => rw [hi] at h1; cases h1; rw [hk] at h2; cases h2
  | struct h1 h2 => rw [hi] at h1; cases h1; rw [hk] at h2; cases h2
theorem PT.arr' (h : PT T t qs) (hi : tl T t = some i) {m : Nat} {e : TypeId} (hk : i.k = .arr m e) : ∃ xs : List (List PV), qs = xs.flatten ∧ xs.length = m ∧ ∀ x ∈ xs, PT T e x := by
  cases h with
  | arr h1 h2 xs hl hx => rw [hi] at h1; cases h1; rw [hk] at h2; cases h2; exact ⟨xs, rfl, hl, hx⟩
  | nl h1 h2 => rw [hi] at h1; cases h1; rw [hk] at h2; cases h2
  | lst h1 h2 => rw [hi] at h1; cases h1; rw [hk] at h2; cases h2
  | int h1 h2 => rw [hi] at h1; cases h1; rw [hk] at h2; cases h2
  | bool h1 h2 => rw [hi] at h1; cases h1; rw [hk] at h2; cases h2
  | struct h1 h2 => rw [hi] at h1; cases h1; rw [hk] at h2; cases h2
theorem PT.struct' (h : PT T t qs) (hi : tl T t = some i) {fs : List (Nat × TypeId)} (hk : i.k = .struct fs) : ∃ xs : List (List PV), qs = xs.flatten ∧ xs.length = fs.length ∧ ∀ (j : Nat) (f : Nat × TypeId) (x : List PV), fs[j]? = some f → xs[j]? = some x → PT T f.2 x := by
  cases h with
  | struct h1 h2 xs hl hx => rw [hi] at h1; cases h1; rw [hk] at h2; cases h2; exact ⟨xs, rfl, hl, hx⟩
  | nl h1 h2 => rw [hi] at h1; cases h1; rw [hk] at h2; cases h2
  | lst h1 h2 => rw [hi] at h1; cases h1; rw [hk] at h2; cases h2
  | int h1 h2 => rw [hi] at h1; cases h1; rw [hk] at h2; cases h2
  | bool h1 h2 => rw [hi] at h1; cases h1; rw [hk] at h2; cases h2
  | arr h1 h2 => rw [hi] at h1; cases h1; rw [hk] at h2; cases h2
inductive PTs (T : Tab) : List (Nat × TypeId) → List PV → Prop
  | nil : PTs T [] []
  | cons (f : Nat × TypeId) (fs : List (Nat × TypeId)) (x qs : List PV) (h : PT T f.2 x) (t : PTs T fs qs) : PTs T (f :: fs) (x ++ qs)
theorem PTs.of : ∀ (fs : List (Nat × TypeId)) (xs : List (List PV)), xs.length = fs.length → (∀ (j : Nat) (f : Nat × TypeId) (x : List PV), fs[j]? = some f → xs[j]? = some x → PT T f.2 x) → PTs T fs xs.flatten
  | [], [], _, _ => .nil
  | [], _ :: _, h, _ => by simp at h
  | _ :: _, [], h, _ => by simp at h
  | f :: fs, x :: xs, h, hx => by
    rw [List.flatten_cons]
    exact .cons f fs x _ (hx 0 f x rfl rfl) (PTs.of fs xs (by simpa using h) fun j g y hg hy => hx (j + 1) g y (by simpa using hg) (by simpa using hy))
theorem PT.structs (h : PT T t qs) (hi : tl T t = some i) {fs : List (Nat × TypeId)} (hk : i.k = .struct fs) : PTs T fs qs := by
  obtain ⟨xs, rfl, hl, hx⟩ := h.struct' hi hk
  exact PTs.of fs xs hl hx
theorem PTs.cons' {f : Nat × TypeId} {fs : List (Nat × TypeId)} (h : PTs T (f :: fs) qs) : ∃ x rs, qs = x ++ rs ∧ PT T f.2 x ∧ PTs T fs rs := by
  cases h with
  | cons _ _ x rs h t => exact ⟨x, rs, rfl, h, t⟩
theorem PTs.nil' (h : PTs T [] qs) : qs = [] := by cases h; rfl
end
end Go.V
