/- Contract of the laws' own copy of a model. No condition but the lists' sizes. -/
import Derived.Test.YtgpmglfcdbpgkaaGreatDoorMSz
namespace Go.Proofs.YtgpmglfcdbpgkaaGreatDoor
open Go.RowKit

/-- The rows of a model are the call's own. -/
structure MOwn (w : World) (base : Nat) (az ax ar : Option Addr) (cz cs cr : Nat) (m : Mdl) (ds : List RuD) : Prop where
  z : w.ownsRow base 2 1 (.slice az m.sz.length cz) m.sz.length (ints m.sz)
  s : w.ownsRow base 2 1 (.slice ax m.st.length cs) m.st.length (ints m.st)
  r : w.ownsRow base 45 3 (.slice ar m.rs.length cr) m.rs.length (rudCells ds)
  e : ds.map RuD.r = m.rs
  d : ∀ d ∈ ds, Nest w base d
theorem Nest.rd {w : World} {base : Nat} {d : RuD} (h : Nest w base d) : Rd w d.ag (tstCells d.r.gs) ∧ Rd w d.ae (asgCells d.r.es) := ⟨Rd.own h.1, Rd.own h.2⟩
theorem MOwn.md {w : World} {base : Nat} {az ax ar : Option Addr} {cz cs cr : Nat} {m : Mdl} {ds : List RuD} (h : MOwn w base az ax ar cz cs cr m ds) : Md w az ax ar m :=
  ⟨Rd.own h.z, Rd.own h.s, ds, h.e, Rd.own h.r, fun d hd => (h.d d hd).rd⟩
theorem MOwn.below {w w1 : World} {base : Nat} {az ax ar : Option Addr} {cz cs cr : Nat} {m : Mdl} {ds : List RuD} (h : MOwn w base az ax ar cz cs cr m ds) (hb : Below w.heap.size w w1) : MOwn w1 base az ax ar cz cs cr m ds :=
  ⟨own_below h.z hb, own_below h.s hb, own_below h.r hb, h.e, fun d hd => (h.d d hd).below hb⟩
theorem Nest.set {w : World} {base : Nat} {d : RuD} (h : Nest w base d) {p : Addr} (hp : p.block < base) (v : Value) : Nest (w.setCell p v) base d := ⟨ownsRow_setCell_below h.1 hp v, ownsRow_setCell_below h.2 hp v⟩
/-- What is handed back is a model of the call's own. -/
def RetMdl (m : Mdl) (w : World) (e : Ending) (w' : World) : Prop :=
  ∃ az ax ar cz cs cr, ∃ ds : List RuD, e = .returned (mv m az ax ar cz cs cr) ∧ MOwn w' w.heap.size az ax ar cz cs cr m ds ∧ Below w.heap.size w w'
end Go.Proofs.YtgpmglfcdbpgkaaGreatDoor
