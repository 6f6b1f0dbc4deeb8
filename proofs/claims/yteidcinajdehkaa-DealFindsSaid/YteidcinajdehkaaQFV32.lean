/-
  THE ENGINE, PART 32: data of a known type, opened.
-/
import Derived.Test.YteidcinajdehkaaQFV31
set_option linter.unusedSimpArgs false
set_option linter.unusedVariables false
namespace Go.V
section
variable {T : Tab} {t : TypeId} {qs : List PV} {i : TI}
theorem PT.int' (h : PT T t qs) (hi : tl T t = some i) {k : IntKind} (hk : i.k = .int k) : ∃ n, qs = [.int k n] ∧ k.min ≤ n ∧ n ≤ k.max := by
  cases h with
  | int h1 h2 h3 h4 => rw [hi] at h1; cases h1; rw [hk] at h2; cases h2; exact ⟨_, rfl, h3, h4⟩
  | bool h1 h2 => rw [hi] at h1; cases h1; rw [hk] at h2; cases h2
  | nl h1 h2 => rw [hi] at h1; cases h1; rw [hk] at h2; cases h2
  | lst h1 h2 => rw [hi] at h1; cases h1; rw [hk] at h2; cases h2
  | arr h1 h2 => rw [hi] at h1; cases h1; rw [hk] at h2; cases h2
  | struct h1 h2 => rw [hi] at h1; cases h1; rw [hk] at h2; cases h2
theorem PT.slice' (h : PT T t qs) (hi : tl T t = some i) {e : TypeId} (hk : i.k = .slice e) : qs = [.nl] ∨ ∃ xs : List (List PV), qs = [.lst false xs.length xs.flatten] ∧ ∀ x ∈ xs, PT T e x := by
  cases h with
  | nl h1 h2 => exact .inl rfl
  | lst h1 h2 xs hx => rw [hi] at h1; cases h1; rw [hk] at h2; cases h2; exact .inr ⟨xs, rfl, hx⟩
  | int h1 h2 => rw [hi] at h1; cases h1; rw [hk] at h2; cases h2
  | bool h1 h2 => rw [hi] at h1; cases h1; rw [hk] at h2; cases h2
  | arr h1 h2 => rw [hi] at h1; cases h1; rw [hk] at h2; cases h2
  | struct h1 h2 => rw [hi] at h1; cases h1; rw [hk] at h2; cases h2
theorem PT.struct' (h : PT T t qs) (hi : tl T t = some i) {fs : List (Nat × TypeId)} (hk : i.k = .struct fs) : ∃ xs : List (List PV), qs = xs.flatten ∧ xs.length = fs.length ∧ ∀ (j : Nat) (f : Nat × TypeId) (x : List PV), fs[j]? = some f → xs[j]? = some x → PT T f.2 x := by
  cases h with
  | struct h1 h2 xs hl hx => rw [hi] at h1; cases h1; rw [hk] at h2; cases h2; exact ⟨xs, rfl, hl, hx⟩
  | nl h1 h2 => rw [hi] at h1; cases h1; rw [hk] at h2; cases h2
  | lst h1 h2 => rw [hi] at h1; cases h1; rw [hk] at h2; cases h2
  | int h1 h2 => rw [hi] at h1; cases h1; rw [hk] at h2; cases h2
  | bool h1 h2 => rw [hi] at h1; cases h1; rw [hk] at h2; cases h2
  | arr h1 h2 => rw [hi] at h1; cases h1; rw [hk] at h2; cases h2
inductive PTs (T : Tab) : List (Nat × TypeId) → List PV → Prop
  | nil : PTs T [] []
  | cons (f : Nat × TypeId) (fs : List (Nat × TypeId)) (x qs : List PV) (h : PT T f.2 x) (t : PTs T fs qs) : PTs T (f :: fs) (x ++ qs)
theorem PTs.of : ∀ (fs : List (Nat × TypeId)) (xs : List (List PV)), xs.length = fs.length → (∀ (j : Nat) (f : Nat × TypeId) (x : List PV), fs[j]? = some f → xs[j]? = some x → PT T f.2 x) → PTs T fs xs.flatten
  | [], [], _, _ => .nil
  | [], _ :: _, h, _ => by simp at h
  | _ :: _, [], h, _ => by simp at h
  | f :: fs, x :: xs, h, hx => by
    rw [List.flatten_cons]
    exact .cons f fs x _ (hx 0 f x rfl rfl) (PTs.of fs xs (by simpa using h) fun j g y hg hy => hx (j + 1) g y (by simpa using hg) (by simpa using hy))
theorem PT.structs (h : PT T t qs) (hi : tl T t = some i) {fs : List (Nat × TypeId)} (hk : i.k = .struct fs) : PTs T fs qs := by
  obtain ⟨xs, rfl, hl, hx⟩ := h.struct' hi hk
  exact PTs.of fs xs hl hx
theorem PTs.cons' {f : Nat × TypeId} {fs : List (Nat × TypeId)} (h : PTs T (f :: fs) qs) : ∃ x rs, qs = x ++ rs ∧ PT T f.2 x ∧ PTs T fs rs := by
  cases h with
  | cons _ _ x rs h t => exact ⟨x, rs, rfl, h, t⟩
theorem PTs.nil' (h : PTs T [] qs) : qs = [] := by cases h; rfl
theorem opened {α : Type} (f : α → List PV) (p : List PV → Prop) (q : α → Prop) (hp : ∀ x, p x → ∃ a, x = f a ∧ q a) : ∀ (xs : List (List PV)), (∀ x ∈ xs, p x) → ∃ L : List α, L.length = xs.length ∧ xs.flatten = L.flatMap f ∧ ∀ a ∈ L, q a
  | [], _ => ⟨[], rfl, rfl, fun _ h => by cases h⟩
  | x :: xs, h => by
    obtain ⟨L, h1, h2, h3⟩ := opened f p q hp xs fun y hy => h y (.tail _ hy)
    obtain ⟨a, rfl, ha⟩ := hp x (h x (.head _))
    exact ⟨a :: L, by simp [h1], by simp [h2], fun b hb => by
      cases hb with
      | head => exact ha
      | tail _ hb => exact h3 b hb⟩
end
end Go.V
