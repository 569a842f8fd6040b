import Derived.Test.Qxb6500907aEng
import Derived.Test.Qxb6500907aStr
set_option linter.unusedVariables false
set_option linter.unusedSimpArgs false
namespace Go.Eng
section str
variable {P : Program} {n : Nat} {L : List (Nat × Value)} {a : Act} {w : World} {T : TypeId} {pos : String} {aft : Array Edge} {g : Option (Nat × Bool)}
variable {ops : Array Oper} {Q : Exit → Act → World → Prop} {K : Act → World → Prop} {D : List Nat} {w0 : World} {F G : List (Nat × Obj)}
/-- the bytes of a text: a new row, byte by byte -/
theorem w_stringToBytesF {d : Nat} {x : Operand} {s t e : TypeId} {v : ByteArray} (hl : Sl n L a) (hh : Has D w0 F w) (hd : Nat.blt d n = true) (hg : GuardOk ops L g)
    (hs : P.underlying s = some .string) (ht : P.underlying t = some (.slice e)) (he : P.underlying e = some (.int .u8)) (hx : val L x = some (.string v))
    (k : ∀ b cap l fr a' w', (∀ i, i < v.size → l[i]? = some (.int .u8 (byteAt v i))) → Sl n ((d, .slice (some ⟨b, 0, none⟩) v.size cap) :: L) a' → Has D w0 ((b, .cells ⟨l⟩ e fr) :: F) w' → K a' w') :
    OpW P ops Q ⟨some d, .convert s t x, T, pos, aft, g⟩ K a w := by
  have hr := run_bytes_of_string w s t e v hs ht he
  generalize hcap : grownCap w v.size 0 e = cap at hr
  refine wl_val hl hd hg (v := .slice (some ⟨w.heap.size, 0, none⟩) v.size cap) (w' := w.drew.alloc (.cells (bytesRow v cap) e ((bytesRow v cap).size, (bytesRow v cap).size + 1))) (by simp [Gives, execOp, hl.ev hx, hr]) fun a' hl' =>
    k _ _ (bytesRow v cap).toList ((bytesRow v cap).size, (bytesRow v cap).size + 1) a' _ (fun i hi => ?_) hl' (hh.drew.alloc _)
  have hs' : i < v.data.size := hi
  have hg : v.data[i]? = some (v.data[i]'hi) := by simp [hs']
  have hb : byteAt v i = ((v.data[i]'hi).toNat : Int) := by
    unfold byteAt
    have : v[i]? = some (v.data[i]'hi) := by
      show (if h : i < v.size then some v[i] else none) = _
      rw [dif_pos hi]; rfl
    rw [this]
  rw [hb]
  simp [bytesRow, List.getElem?_append, hi, hg]
end str
end Go.Eng
