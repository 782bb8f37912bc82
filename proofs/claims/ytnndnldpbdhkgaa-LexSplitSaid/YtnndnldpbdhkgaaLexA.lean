/-
  The functions that call each other, at each fuel.
-/
import Derived.Test.YtnndnldpbdhkgaaLexM
namespace Go.Proofs.Ytnndnldpbdhkgaa
open Go.RowKit

theorem does (n : Nat) : Does n := by
  induction n using Nat.strongRecOn with
  | _ n IH => exact {
      out := fun B cs wb s i d g N w h1 h2 h3 h4 h5 h6 => out_step n IH B cs wb s i d g N w h1 h2 h3 h4 h5 h6
      inn := fun B cs wb s i d g N w h1 h2 h3 h4 h5 h6 h7 => inn_step n IH B cs wb s i d g N w h1 h2 h3 h4 h5 h6 h7
      dq := fun B cs wb s i d m g N w h1 h2 h3 h4 h5 h6 h7 => dq_step n IH B cs wb s i d m g N w h1 h2 h3 h4 h5 h6 h7
      dol := fun q B cs wb s i d m g N w h1 h2 h3 h4 h5 h6 h7 => dol_step n IH q B cs wb s i d m g N w h1 h2 h3 h4 h5 h6 h7
      brace := fun q cs pb s i d w h1 h2 h3 h4 h5 h6 h7 => brace_step n IH q cs pb s i d w h1 h2 h3 h4 h5 h6 h7
      br := fun q cs s i d w h1 h2 h3 h4 h5 => br_step n IH q cs s i d w h1 h2 h3 h4 h5 }
end Go.Proofs.Ytnndnldpbdhkgaa
