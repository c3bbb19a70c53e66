/-
  The log: New, Len, At, Result, Last, Look. The log: Append. The log: Append of what is taken. The log: Copy, Entries, Begins. No condition.
-/
import Derived.Test.YtfkbodonidkpoaaQ7
import Derived.Test.YtfkbodonidkpoaaP7
namespace Go.Proofs.Ytfkbodonidkpoaa
/-- What is told of a client. -/
def lastM (l : LogM) (c : Int) : Int × Int := if c < 0 ∨ 6 ≤ c then (0, 0) else l.la c.toNat
end Go.Proofs.Ytfkbodonidkpoaa
namespace Go.Proofs.Ytfkbodonidkpoaa
abbrev entS' (index client seq : Int) (op : OpM) : SV := .agg [.v (.int .i64 index), .v (.int .i64 client), .v (.int .i64 seq), .v (.int .i64 op.kind), .v (S op.key), .v (S op.value), .v (.int .i64 op.version)]
end Go.Proofs.Ytfkbodonidkpoaa
namespace Go.Proofs.Ytfkbodonidkpoaa
/-- What a log lies in behind an entry that was taken. -/
abbrev logHp (l : LogM) : List HE := [.blk 150 (.p 1 0 :: .os 4 l.ents.length :: .os 5 l.ress.length :: laV l.la), kvE l.cs, .none, .none, .own 36 7 l.ents.length (entF l.ents), .own 41 4 l.ress.length (resF l.ress)]
end Go.Proofs.Ytfkbodonidkpoaa
namespace Go.Proofs.Ytfkbodonidkpoaa
section
variable {w0 : World} {U : Nat → Prop}
end
section
variable {w0 : World} {U : Nat → Prop}
end
end Go.Proofs.Ytfkbodonidkpoaa
