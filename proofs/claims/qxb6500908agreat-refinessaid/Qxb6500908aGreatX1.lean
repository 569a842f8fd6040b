import Derived.Test.Qxb6500908aGreatX0
import Derived.Test.Qxb6500908aGreatW18
namespace Go.Proofs.Qxb6500908aGreat
open Go.Eng
set_option linter.unusedVariables false
set_option linter.unusedSimpArgs false

theorem tk9 {g : GtV} (hI : GtI g.pl) : g.tk ≤ 1000 := by have h9 : g.tk ≤ 8 := hI.t.2; omega
theorem ou9 {g : GtV} (hI : GtI g.pl) : g.out.length ≤ 40 := by rw [show g.out = [] from hI.o]; simp

theorem in_sub (Z : List (Nat × Obj)) (gb : Nat) (g : GtV) (l : LdV) (hg : g.ok Z) (hl9 : l.ok Z) (hI : GtI g.pl) (hvs : g.st.vs.length < 1000000000) (i : InP) (p : Option Addr) (cap : Nat) (hi : InOk Z i p cap) (hk : i.k = 0) : Sp Tryz.prog 32 #[.pointer (some ⟨gb, 0, none⟩), .slice p i.tx.length cap] (GF gb g l Z) (fun v F' => v = .tuple #[.int .u32 (ginP g.pl l.pl i).2.1, .int .u8 (ginP g.pl l.pl i).2.2] ∧ GO gb g.led (ginP g.pl l.pl i).1 Z F') := by
  rw [gi_0 hk]
  obtain ⟨Sc, h1, h2⟩ := hi.t hk
  exact submit_spec Z gb g l hg hl9 p cap i.tx Sc hi.tl h1 h2

theorem in_stat (Z : List (Nat × Obj)) (gb : Nat) (g : GtV) (l : LdV) (hg : g.ok Z) (hl9 : l.ok Z) (hI : GtI g.pl) (hvs : g.st.vs.length < 1000000000) (i : InP) (p : Option Addr) (cap : Nat) (hi : InOk Z i p cap) (hk : i.k = 1) : Sp Tryz.prog 33 #[.pointer (some ⟨gb, 0, none⟩), .int .u32 i.id] (GF gb g l Z) (fun v F' => v = .int .u8 (ginP g.pl l.pl i).2.2 ∧ GO gb g.led (ginP g.pl l.pl i).1 Z F') := by
  rw [gi_1 hk]
  exact sp_mono (status_spec Z gb g l hg hl9 i.id hi.id) fun v F ⟨h1, h2⟩ => ⟨h1, by rw [h2]; exact GO.same hg hl9 rfl rfl rfl⟩

theorem in_abort (Z : List (Nat × Obj)) (gb : Nat) (g : GtV) (l : LdV) (hg : g.ok Z) (hl9 : l.ok Z) (hI : GtI g.pl) (hvs : g.st.vs.length < 1000000000) (i : InP) (p : Option Addr) (cap : Nat) (hi : InOk Z i p cap) (hk : i.k = 2) : Sp Tryz.prog 34 #[.pointer (some ⟨gb, 0, none⟩), .int .u32 i.id] (GF gb g l Z) (fun v F' => v = .int .u8 (ginP g.pl l.pl i).2.2 ∧ GO gb g.led (ginP g.pl l.pl i).1 Z F') := by
  rw [gi_2 hk]
  exact abort_spec Z gb g l hg hl9 (ou9 hI) i.id hi.id

theorem in_add (Z : List (Nat × Obj)) (gb : Nat) (g : GtV) (l : LdV) (hg : g.ok Z) (hl9 : l.ok Z) (hI : GtI g.pl) (hvs : g.st.vs.length < 1000000000) (i : InP) (p : Option Addr) (cap : Nat) (hi : InOk Z i p cap) (hk : i.k = 3) : Sp Tryz.prog 35 #[.pointer (some ⟨gb, 0, none⟩), .agg ⟨ivc i.v⟩] (GF gb g l Z) (fun v F' => v = .int .u8 (ginP g.pl l.pl i).2.2 ∧ GO gb g.led (ginP g.pl l.pl i).1 Z F') := by
  rw [gi_3 hk]
  exact addI_spec Z gb g l hg hl9 i.v hi.v

theorem in_drop (Z : List (Nat × Obj)) (gb : Nat) (g : GtV) (l : LdV) (hg : g.ok Z) (hl9 : l.ok Z) (hI : GtI g.pl) (hvs : g.st.vs.length < 1000000000) (i : InP) (p : Option Addr) (cap : Nat) (hi : InOk Z i p cap) (hk : i.k = 4) : Sp Tryz.prog 36 #[.pointer (some ⟨gb, 0, none⟩), .agg ⟨ivc i.v⟩] (GF gb g l Z) (fun v F' => v = .int .u8 (ginP g.pl l.pl i).2.2 ∧ GO gb g.led (ginP g.pl l.pl i).1 Z F') := by
  rw [gi_4 hk]
  exact dropI_spec Z gb g l hg hl9 i.v hi.v

theorem in_diff (Z : List (Nat × Obj)) (gb : Nat) (g : GtV) (l : LdV) (hg : g.ok Z) (hl9 : l.ok Z) (hI : GtI g.pl) (hvs : g.st.vs.length < 1000000000) (i : InP) (p : Option Addr) (cap : Nat) (hi : InOk Z i p cap) (hk : i.k = 17) : Sp Tryz.prog 37 #[.pointer (some ⟨gb, 0, none⟩), .int .u32 i.id, .int .u32 i.i2] (GF gb g l Z) (fun v F' => v = .tuple #[.int .u16 (ginP g.pl l.pl i).2.1, .int .u8 (ginP g.pl l.pl i).2.2] ∧ GO gb g.led (ginP g.pl l.pl i).1 Z F') := by
  rw [gi_17 hk]
  exact sp_mono (diff_spec Z gb g l hg hl9 i.id i.i2) fun v F ⟨h1, h2⟩ => ⟨h1, by rw [h2]; exact GO.same hg hl9 rfl rfl rfl⟩

theorem in_tick (Z : List (Nat × Obj)) (gb : Nat) (g : GtV) (l : LdV) (hg : g.ok Z) (hl9 : l.ok Z) (hI : GtI g.pl) (hvs : g.st.vs.length < 1000000000) (i : InP) (p : Option Addr) (cap : Nat) (hi : InOk Z i p cap) (hk : i.k = 5) : Sp Tryz.prog 38 #[.pointer (some ⟨gb, 0, none⟩)] (GF gb g l Z) (fun v F' => v = .tuple #[] ∧ GO gb g.led (ginP g.pl l.pl i).1 Z F') := by
  rw [gi_5 hk]
  exact tick_spec Z gb g l hg hl9 (ou9 hI) (tk9 hI)

theorem in_msg (Z : List (Nat × Obj)) (gb : Nat) (g : GtV) (l : LdV) (hg : g.ok Z) (hl9 : l.ok Z) (hI : GtI g.pl) (hvs : g.st.vs.length < 1000000000) (i : InP) (p : Option Addr) (cap : Nat) (hi : InOk Z i p cap) (hk : i.k = 7) : Sp Tryz.prog 39 #[.pointer (some ⟨gb, 0, none⟩), .agg ⟨msc i.m⟩] (GF gb g l Z) (fun v F' => v = .tuple #[] ∧ GO gb g.led (ginP g.pl l.pl i).1 Z F') := by
  rw [gi_7 hk]
  exact deliver_spec Z gb g l hg hl9 (ou9 hI) hvs i.m hi.m
end Go.Proofs.Qxb6500908aGreat
