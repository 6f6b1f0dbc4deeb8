/-
  THE ENGINE, PART 27: data that say less; loops by a function that says what they lead to; parts of such functions.
-/
import Derived.Test.YtdnfffmppppoeaaDoorPV26
set_option linter.unusedSimpArgs false
set_option linter.unusedVariables false
namespace Go.V
mutual
inductive PLe : PV → PV → Prop
  | refl (p : PV) : PLe p p
  | nl (f : Bool) : PLe .nl (.lst f 0 [])
  | lst (f g : Bool) (n : Nat) (cs ds : List PV) (h : g = true → f = true) (t : PLes cs ds) : PLe (.lst f n cs) (.lst g n ds)
  | ipt (cs ds : List PV) (t : PLes cs ds) : PLe (.ipt cs) (.ipt ds)
  | agg (cs ds : List PV) (t : PLes cs ds) : PLe (.agg cs) (.agg ds)
  | tup (cs ds : List PV) (t : PLes cs ds) : PLe (.tup cs) (.tup ds)
  | fn (f : FuncId) (cs ds : List PV) (t : PLes cs ds) : PLe (.fn f cs) (.fn f ds)
inductive PLes : List PV → List PV → Prop
  | nil : PLes [] []
  | cons (p q : PV) (cs ds : List PV) (h : PLe p q) (t : PLes cs ds) : PLes (p :: cs) (q :: ds)
end
theorem PLes.app : ∀ {a b c d : List PV}, PLes a b → PLes c d → PLes (a ++ c) (b ++ d)
  | [], [], _, _, .nil, h => h
  | _, _, _, _, .cons p q cs ds h t, h2 => .cons p q _ _ h (PLes.app t h2)
section le
end le
section dle
end dle
section loop
end loop
section model
end model
end Go.V
