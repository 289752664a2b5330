import Derived.Test.YtjpjnhljmloofaaDoorCOpenS
set_option linter.unusedVariables false
set_option linter.unusedSimpArgs false
set_option maxRecDepth 100000
namespace Go.Proofs.YtjpjnhljmloofaaDoor
open Go Go.ChangeShapes Go.WideShapes
structure ActT where
  k : Int
  who : ByteArray
  dom : ByteArray
  b : List UInt8
  t : List UInt8
def actE (a : ActT) : List D := [.c (.int .i64 a.k), .c (.string a.who), .c (.string a.dom), .sl 1 a.b.length (bD a.b), .sl 1 a.t.length (bD a.t)]
def actOk (a : ActT) : Prop := (-9223372036854775808 ≤ a.k ∧ a.k ≤ 9223372036854775807) ∧ a.who.size ≤ reachBytes ∧ a.dom.size ≤ reachBytes ∧ a.b.length ≤ reachBytes ∧ a.t.length ≤ reachBytes
theorem opens_act : Opens Tryd.prog 51 actE (fun _ => 1) actOk := by
  have hb : Opens Tryd.prog 22 (fun l : List UInt8 => [.sl 1 l.length (bD l)]) (fun l => l.length + 1) (fun l => l.length ≤ reachBytes) := opens_bytes (e := 5) (by kernel_rfl) (by kernel_rfl) (by kernel_rfl) (by kernel_rfl)
  have hs : Opens Tryd.prog 9 (fun s : ByteArray => [.c (.string s)]) (fun s => s.size + 1) (fun s => s.size ≤ reachBytes) := opens_string (by kernel_rfl)
  have hi : Opens Tryd.prog 3 (fun n : Int => [.c (.int .i64 n)]) (fun _ => 1) (fun n => IntKind.i64.min ≤ n ∧ n ≤ IntKind.i64.max) := opens_int (by kernel_rfl)
  have base := opens_struct (m := 5) Tryd.underlying51 (by kernel_rfl) (fun a _ => rfl) (opensF_c (sz := 1) hi (opensF_c (sz := 1) hs (opensF_c (sz := 1) hs (opensF_c (sz := 1) hb (opensF_c (sz := 1) hb (opensF_nil Tryd.prog 5) rfl (by kernel_rfl) (fun _ _ => rfl)) rfl (by kernel_rfl) (fun _ _ => rfl)) rfl (by kernel_rfl) (fun _ _ => rfl)) rfl (by kernel_rfl) (fun _ _ => rfl)) rfl (by kernel_rfl) (fun _ _ => rfl))
  exact base.mono (fun x => ⟨x.1, x.2.1, x.2.2.1, x.2.2.2.1, x.2.2.2.2.1⟩) (fun a _ => rfl) (fun a _ => by omega) (fun a h => ⟨h.1, h.2.1, h.2.2.1, h.2.2.2.1, h.2.2.2.2.1⟩)
end Go.Proofs.YtjpjnhljmloofaaDoor
